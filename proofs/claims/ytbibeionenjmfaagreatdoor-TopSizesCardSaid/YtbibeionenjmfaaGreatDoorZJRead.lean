/- A reader of a line: a word, the next one, a number. -/
import Derived.Test.YtbibeionenjmfaaGreatDoorZJobLaw
import Derived.Test.YtbibeionenjmfaaGreatDoorZNamesM
import Derived.Test.YtbibeionenjmfaaGreatDoorZDecI
import Derived.Test.YtbibeionenjmfaaGreatDoorZLinesLaw
set_option linter.unusedSimpArgs false
set_option linter.unusedVariables false
namespace Go.Proofs.YtbibeionenjmfaaGreatDoor
open Go.RowKit
def I8 (l:List UInt8):List UInt8:=l.flatMap fun c=> if c=34∨c=92 then [92,c] else [c]
def B4 (l:List UInt8):List UInt8:=34::(I8 l++ [34])
def Fe (k n:Int):List UInt8:=if k=3∨k=6∨k=7 then 32::Lib.itoa n else []
def Ey (k:Int) (s:ByteArray):List UInt8:=if k=4 then 32::B4 s.data.toList else []
mutual
def Az:Ah→List UInt8
 | .mk k n s a=> A8 k++(Fe k n++(Ey k s++A2 a))
def A2:List Ah→List UInt8
 | []=> []
 | x::l=> 32::(Az x++A2 l)
end
def Hz (b:Bool):List UInt8:=if b=true then [101,97,99,104,32] else []
def Ea (r:Aw):List UInt8:=
 if r.Bc=0 then [] else(if r.Bc=1 then [115,97,109,101,32] else [111,116,104,101,114,32])++(Az r.cond++(32::(B4 r.C1.data.toList++ [32])))
def Hb (r:Aw):List UInt8:=Hz r.each++(Ea r++([107,101,121,32]++(Az r.key++([32,118,97,108,32]++Az r.val))))
def C3 (k:Int):List UInt8:=
 if k=1 then [115,117,109] else if k=2 then [108,101,97,115,116] else if k=3 then [103,114,101,97,116,101,115,116] else if k=4 then [99,111,117,110,116] else []
def Jv (fold slices:Int) (early:Bool):List UInt8:=C3 fold++(32::(Lib.itoa slices++(if early=true then [32,101,97,114,108,121] else [])))
def Ke (rs:List Aw) (fold slices:Int) (early:Bool):List UInt8:=Jv fold slices early++(10::rs.flatMap fun r=> Hb r++ [10])
def Ax (s:List UInt8):List UInt8×List UInt8:=((cutAt 32 s).1,(cutAt 32 s).2.1)
def Gn:List UInt8→Option (List UInt8×List UInt8)
 | []=> none
 | [c]=> if c=34 then some ([], []) else none
 | c::d::l=> if c=92 then(Gn l).map fun p=> (d::p.1,p.2) else if c=34 then some ([],d::l) else(Gn (d::l)).map fun p=> (c::p.1,p.2)
def Bz (s:List UInt8):List UInt8×List UInt8×Bool:=
 match s with
 | []=> ([], [],true)
 | c::l=> if c=34 then(match Gn l with
    | some (t,r)=> (match r with
      | []=> (t, [],false)
      | d::r'=> if d=32 then(t,r',false) else(t,d::r',true))
    | none=> ([],c::l,true)) else([],c::l,true)
def Cl (w:List UInt8):Int:=
 if w=A8 1 then 1 else if w=A8 2 then 2 else if w=A8 3 then 3 else if w=A8 4 then 4 else if w=A8 5 then 5
 else if w=A8 6 then 6 else if w=A8 7 then 7 else if w=A8 8 then 8 else if w=A8 9 then 9 else if w=A8 10 then 10 else 0
def Mr (k:Int):Nat:=if k=6∨k=8 then 1 else if k=5∨k=10 then 2 else 0
def Bo (rd:List UInt8→Ah×List UInt8×Bool):Nat→List UInt8→Bool→List Ah×List UInt8×Bool
 | 0,s,bad=> ([],s,bad)
 | m+1,s,bad=> if bad=true then([],s,bad) else((rd s).1::(Bo rd m (rd s).2.1 (rd s).2.2).1,(Bo rd m (rd s).2.1 (rd s).2.2).2)
def Pm (k:Int) (s:List UInt8):Int×List UInt8×Bool:=if k=3∨k=6∨k=7 then(Ci (Ax s).1,(Ax s).2,!Dg (Ax s).1) else(0,s,false)
def Zi (k:Int) (s:List UInt8):List UInt8×List UInt8×Bool:=if k=4 then Bz s else([],s,false)
def Je (s:List UInt8):Int×Int×List UInt8×List UInt8×Bool:=
 (Cl (Ax s).1,(Pm (Cl (Ax s).1) (Ax s).2).1,(Zi (Cl (Ax s).1) (Pm (Cl (Ax s).1) (Ax s).2).2.1).1,(Zi (Cl (Ax s).1) (Pm (Cl (Ax s).1) (Ax s).2).2.1).2.1,
  decide (Cl (Ax s).1=0) || ((Pm (Cl (Ax s).1) (Ax s).2).2.2 || (Zi (Cl (Ax s).1) (Pm (Cl (Ax s).1) (Ax s).2).2.1).2.2))
def Bq:Nat→List UInt8→Bool→Ah×List UInt8×Bool
 | 0,s,_=> (.mk (Je s).1 (Je s).2.1 (tx (Je s).2.2.1) [],(Je s).2.2.2.1,true)
 | f+1,s,bad=>
   let c:=Bo (fun s=> Bq f s false) (Mr (Je s).1) (Je s).2.2.2.1 (bad || (Je s).2.2.2.2)
   (.mk (Je s).1 (Je s).2.1 (tx (Je s).2.2.1) c.1,c.2.1,c.2.2)
def B5 (w s:List UInt8):Bool:=(w++ [32]).isPrefixOf s
def Ay (w s:List UInt8):List UInt8:=if B5 w s=true then s.drop (w.length+1) else s
def Dn:List UInt8:= [101,97,99,104]
def P3:List UInt8:= [115,97,109,101]
def M9:List UInt8:= [111,116,104,101,114]
def Oy:List UInt8:= [107,101,121]
def Oz:List UInt8:= [118,97,108]
def Hg (s:List UInt8):Int:=if B5 P3 s=true then 1 else if B5 M9 s=true then 2 else 0
def Cy (s:List UInt8):List UInt8:=if B5 P3 s=true then s.drop 5 else if B5 M9 s=true then s.drop 6 else s
def Qg:Ah:= .mk 0 0 (tx []) []
def Eu (s:List UInt8):Ah×List UInt8×List UInt8×Bool:=
 if Hg s=0 then(Qg, [],Cy s,false)
 else((Bq 5 (Cy s) false).1,(Bz (Bq 5 (Cy s) false).2.1).1,(Bz (Bq 5 (Cy s) false).2.1).2.1,(Bq 5 (Cy s) false).2.2 || (Bz (Bq 5 (Cy s) false).2.1).2.2)
def Su (s:List UInt8) (bad:Bool):Ah×List UInt8×Bool:=Bq 5 (Ay Oy s) (!B5 Oy s || bad)
def Aca (s:List UInt8) (bad:Bool):Ah×List UInt8×Bool:=Bq 5 (Ay Oz s) (!B5 Oz s || bad)
def Dk (s:List UInt8):Aw×Bool:=
 let e:=B5 Dn s
 let c:=Eu (Ay Dn s)
 let k:=Su c.2.2.1 c.2.2.2
 let v:=Aca k.2.1 k.2.2
 (⟨e,Hg (Ay Dn s),c.1,tx c.2.1,k.1,v.1⟩,v.2.2 || !v.2.1.isEmpty)
def He (w:List UInt8):Int:=if w=C3 1 then 1 else if w=C3 2 then 2 else if w=C3 3 then 3 else if w=C3 4 then 4 else 0
def Tw:List UInt8:= [101,97,114,108,121]
def T8 (h:List UInt8):Int×Int×Bool×Bool:=
 (He (Ax h).1,Ci (Ax (Ax h).2).1,decide ((Ax (Ax h).2).2=Tw),!Dg (Ax (Ax h).2).1)
def Dl (s:List UInt8):List Aw×Int×Int×Bool×Bool:=
 (((C5 s).drop 1).map fun l=> (Dk l).1,(T8 ((C5 s).headD [])).1,(T8 ((C5 s).headD [])).2.1,(T8 ((C5 s).headD [])).2.2.1,
   (T8 ((C5 s).headD [])).2.2.2 || ((C5 s).drop 1).any fun l=> (Dk l).2)
theorem N1 {l:List UInt8} {c:UInt8} (h:c∈l):0≤Lib.indexByte l c:=by
 have h1:=Lib.indexByte_ge l c
 rcases Int.lt_or_le (Lib.indexByte l c) 0 with h2 | h2
 ·obtain⟨k,hk⟩:=List.mem_iff_getElem?.1 h
  exact absurd hk (Lib.indexByte_none (by omega) k)
 ·exact h2
theorem Abv {l:List UInt8} (h:(10:UInt8) ∉ l):(10:UInt8) ∉ B4 l:=by
 unfold B4 I8
 simp only [List.mem_cons,List.mem_append,List.mem_flatMap,not_or,not_exists,not_and,List.not_mem_nil,or_false]
 refine⟨by decide,fun c hc=> ?_,by decide⟩
 have:c≠10:=fun e=> h (e ▸ hc)
 split
 ·simp;exact fun e=> this e.symm
 ·simp;exact fun e=> this e.symm
def Sep (R:List UInt8):Prop:=R= []∨∃ R',R=32::R'
theorem Na {w R:List UInt8} (h:(32:UInt8) ∉ w) (hR:Sep R):Ax (w++R)=(w,R.drop 1):=by
 unfold Ax
 rcases hR with rfl | ⟨R',rfl⟩
 ·rw [List.append_nil,Kn h];rfl
 ·rw [Fz h];rfl
theorem Xl (k:Int):(32:UInt8) ∉ A8 k∧(10:UInt8) ∉ A8 k:=by
 unfold A8
 constructor <;> (repeat' split) <;> decide
theorem Ud {k:Int} (h:1≤k∧k≤10):Cl (A8 k)=k:=by
 have h1:k=1∨k=2∨k=3∨k=4∨k=5∨k=6∨k=7∨k=8∨k=9∨k=10:=by omega
 rcases h1 with rfl | rfl | rfl | rfl | rfl | rfl | rfl | rfl | rfl | rfl <;> decide
theorem Abu (R:List UInt8):∀ l:List UInt8,Gn (I8 l++34::R)=some (l,R)
 | []=> by
   cases R with
   | nil=> rfl
   | cons d R=> simp [I8,Gn]
 | c::l=> by
   have ih:=Abu R l
   by_cases hc:c=34∨c=92
   ·have e:I8 (c::l)++34::R=92::c::(I8 l++34::R):=by simp [I8,hc]
    rw [e,Gn,if_pos rfl,ih];rfl
   ·have e:I8 (c::l)++34::R=c::(I8 l++34::R):=by simp [I8,hc]
    rw [e]
    obtain⟨d,r,hd⟩:∃ d r,I8 l++34::R=d::r:=by
     cases h:I8 l++34::R with
     | nil=> simp at h
     | cons d r=> exact⟨d,r,rfl⟩
    rw [hd] at ih ⊢
    rw [Gn,if_neg (fun e=> hc (.inr e)),if_neg (fun e=> hc (.inl e)),ih];rfl
theorem U1 (l:List UInt8) {R:List UInt8} (hR:Sep R):Bz (B4 l++R)=(l,R.drop 1,false):=by
 have e:B4 l++R=34::(I8 l++34::R):=by simp [B4]
 rw [e]
 unfold Bz
 simp only [if_pos,Abu]
 rcases hR with rfl | ⟨R',rfl⟩ <;> simp
theorem Pe (v:Int):(32:UInt8) ∉ Lib.itoa v∧(10:UInt8) ∉ Lib.itoa v:=⟨Mn (by decide) (by decide),Mn (by decide) (by decide)⟩
theorem Us {v:Int} (h: -9223372036854775808≤v∧v≤9223372036854775807):Dg (Lib.itoa v)=true∧Ci (Lib.itoa v)=v:=by
 have h1:Sv (Lib.itoa v)=some v:=S6.2 ⟨h,rfl⟩
 have h2:Dg (Lib.itoa v)=true:=by unfold Dg;rw [h1];rfl
 refine⟨h2,?_⟩
 have h3:=Kv h2
 rw [h1] at h3
 exact(Option.some.inj h3).symm
theorem Ji (l:List UInt8):Sep (32::l):= .inr ⟨l,rfl⟩
theorem S7 {A R:List UInt8} (hA:Sep A) (hR:Sep R):Sep (A++R):=by
 rcases hA with rfl | ⟨A',rfl⟩
 ·exact hR
 ·exact .inr ⟨A'++R,rfl⟩
theorem Anm (k n:Int):Sep (Fe k n):=by unfold Fe;split;exact Ji _;exact .inl rfl
theorem Ann (k:Int) (s:ByteArray):Sep (Ey k s):=by unfold Ey;split;exact Ji _;exact .inl rfl
theorem Ab0 (a:List Ah):Sep (A2 a):=by cases a <;> simp [A2,Sep]
theorem Am9 {k n:Int} (hn:(k=3∨k=6∨k=7)∨n=0) (hb: -9223372036854775808≤n∧n≤9223372036854775807) {R:List UInt8} (hR:Sep R):
 Pm k ((Fe k n++R).drop 1)=(n,R.drop 1,false):=by
 unfold Pm Fe
 by_cases hk:k=3∨k=6∨k=7
 ·rw [if_pos hk,if_pos hk]
  have e:(32::Lib.itoa n++R).drop 1=Lib.itoa n++R:=rfl
  rw [e,Na (Pe n).1 hR]
  obtain⟨h1,h2⟩:=Us hb
  simp [h1,h2]
 ·rw [if_neg hk,if_neg hk]
  rcases hn with h1 | rfl
  ·exact absurd h1 hk
  ·rfl
theorem An1 {k:Int} {s:ByteArray} (hs:k=4∨s.data.toList= []) {R:List UInt8} (hR:Sep R):Zi k ((Ey k s++R).drop 1)=(s.data.toList,R.drop 1,false):=by
 unfold Zi Ey
 by_cases hk:k=4
 ·rw [if_pos hk,if_pos hk]
  exact U1 _ hR
 ·rw [if_neg hk,if_neg hk]
  rcases hs with h1 | h1
  ·exact absurd h1 hk
  ·rw [h1];rfl
theorem Ang {k n:Int} {s:ByteArray} {a:List Ah} (hk:1≤k∧k≤10) (hn:(k=3∨k=6∨k=7)∨n=0) (hb: -9223372036854775808≤n∧n≤9223372036854775807) (hs:k=4∨s.data.toList= []) {R:List UInt8} (hR:Sep R):
 Je (Az (.mk k n s a)++R)=(k,n,s.data.toList,(A2 a++R).drop 1,false):=by
 have e:Az (.mk k n s a)++R=A8 k++(Fe k n++(Ey k s++(A2 a++R))):=by simp [Az]
 have s2:Sep (A2 a++R):=S7 (Ab0 a) hR
 have s1:Sep (Ey k s++(A2 a++R)):=S7 (Ann k s) s2
 have s0:Sep (Fe k n++(Ey k s++(A2 a++R))):=S7 (Anm k n) s1
 unfold Je
 rw [e,Na (Xl k).1 s0]
 simp only [Ud hk]
 rw [Am9 hn hb s1,An1 hs s2]
 have:decide (k=0)=false:=by simp;omega
 simp [this]
theorem Sd (rd:List UInt8→Ah×List UInt8×Bool) {R:List UInt8} (hR:Sep R):∀ (l:List Ah),(∀ x∈l,∀ R',Sep R'→rd (Az x++R')=(x,R'.drop 1,false))→Bo rd l.length ((A2 l++R).drop 1) false=(l,R.drop 1,false)
 | [],_=> by simp [Bo,A2]
 | x::l,h=> by
   have h1:=h x List.mem_cons_self (A2 l++R) (S7 (Ab0 l) hR)
   have h2:=Sd rd hR l fun y hy=> h y (List.mem_cons_of_mem _ hy)
   have e:(A2 (x::l)++R).drop 1=Az x++(A2 l++R):=by simp [A2]
   rw [List.length_cons,Bo,e,h1]
   simp only [Bool.false_eq_true,if_false]
   rw [h2]
theorem Ta:∀ {a:List Ah} {ts:List Bool} {each:Bool},V2 a ts each=true→a.length=ts.length→∀ x∈a,∃ t,Kg x t each=true
 | [],_,_,_,_,x,hx=> by cases hx
 | a::l, [],_,_,h,x,hx=> by simp at h
 | a::l,t::ts,each,h,hl,x,hx=> by
   rw [V2,Bool.and_eq_true] at h
   rcases List.mem_cons.1 hx with rfl | hx
   ·exact⟨t,h.1⟩
   ·exact Ta h.2 (by simpa using hl) x hx
theorem Ql:∀ {a:List Ah} {x:Ah},x∈a→x.deep≤Ah.Tu a
 | [],_,h=> by cases h
 | y::l,x,h=> by
   rw [Ah.Tu]
   rcases List.mem_cons.1 h with rfl | h
   ·exact Nat.le_max_left _ _
   ·exact Nat.le_trans (Ql h) (Nat.le_max_right _ _)
theorem S9 {k n:Int} {s:ByteArray} {a:List Ah} {text each:Bool} (h:Kg (.mk k n s a) text each=true):
 (1≤k∧k≤10)∧((k=3∨k=6∨k=7)∨n=0)∧(-9223372036854775808≤n∧n≤9223372036854775807)∧(k=4∨s.data.toList= [])∧a.length=Mr k∧((10:UInt8) ∉ s.data.toList):=by
 obtain⟨h1,h2,h3,_,h5,_⟩:=F6 h
 have hn:((k=3∨k=6∨k=7)∨n=0)∧(-9223372036854775808≤n∧n≤9223372036854775807):=by
  unfold Pj at h2
  split at h2
  ·simp at h2;omega
  ·split at h2
   ·simp at h2;omega
   ·split at h2
    ·simp at h2;omega
    ·simp at h2;omega
 have hs:(k=4∨s.data.toList= [])∧((10:UInt8) ∉ s.data.toList):=by
  unfold Za at h3
  split at h3
  ·rename_i hk
   refine⟨.inl hk,fun hm=> ?_⟩
   simp only [Bool.and_eq_true,Bool.not_eq_true',decide_eq_false_iff_not] at h3
   exact h3.2 (N1 hm)
  ·have:s.data.toList= []:=by rw [←tl];exact List.isEmpty_iff.1 h3
   exact⟨.inr this,by rw [this];simp⟩
 refine⟨h1,hn.1,hn.2,hs.1,?_,hs.2⟩
 rw [h5]
 unfold Dp Mr
 have hk:k=1∨k=2∨k=3∨k=4∨k=5∨k=6∨k=7∨k=8∨k=9∨k=10:=by omega
 rcases hk with rfl | rfl | rfl | rfl | rfl | rfl | rfl | rfl | rfl | rfl <;> rfl
theorem Lx:∀ (f:Nat) (e:Ah) (text each:Bool) (R:List UInt8),Kg e text each=true→e.deep≤f→Sep R→Bq f (Az e++R) false=(e,R.drop 1,false)
 | 0,e,_,_,_,_,hd,_=> by
   obtain⟨k,n,s,a⟩:=e
   rw [Ah.deep] at hd
   omega
 | f+1,e,text,each,R,h,hd,hR=> by
   obtain⟨k,n,s,a⟩:=e
   obtain⟨h1,h2,h3,h4,h5,_⟩:=S9 h
   obtain⟨_,_,_,_,h6,h7⟩:=F6 h
   rw [Ah.deep] at hd
   rw [Bq]
   simp only [Ang (a:=a) h1 h2 h3 h4 hR,Bool.or_false]
   rw [←h5,Sd _ hR a fun x hx R' hR'=> ?_]
   ·simp only [P2]
   ·obtain⟨t,ht⟩:=Ta h7 h6 x hx
    exact Lx f x t each R' ht (by have:=Ql hx;omega) hR'
theorem Pz:∀ (f:Nat) (e:Ah) (text each:Bool),Kg e text each=true→e.deep≤f→(10:UInt8) ∉ Az e
 | 0,e,_,_,_,hd=> by
   obtain⟨k,n,s,a⟩:=e
   rw [Ah.deep] at hd
   omega
 | f+1,e,text,each,h,hd=> by
   obtain⟨k,n,s,a⟩:=e
   obtain⟨h1,h2,h3,h4,h5,h6⟩:=S9 h
   obtain⟨_,_,_,_,h7,h8⟩:=F6 h
   rw [Ah.deep] at hd
   have hk:∀ l:List Ah,(∀ x∈l,(10:UInt8) ∉ Az x)→(10:UInt8) ∉ A2 l:=by
    intro l
    induction l with
    | nil=> intro _;simp [A2]
    | cons x l ih=>
      intro h
      simp only [A2,List.mem_cons,List.mem_append,not_or]
      exact⟨by decide,h x List.mem_cons_self,ih fun y hy=> h y (List.mem_cons_of_mem _ hy)⟩
   rw [Az]
   simp only [List.mem_append,not_or]
   refine⟨(Xl k).2,?_,?_,hk a fun x hx=> ?_⟩
   ·unfold Fe
    split
    ·simp only [List.mem_cons,not_or];exact⟨by decide,(Pe n).2⟩
    ·simp
   ·unfold Ey
    split
    ·simp only [List.mem_cons,not_or];exact⟨by decide,Abv h6⟩
    ·simp
   ·obtain⟨t,ht⟩:=Ta h8 h7 x hx
    exact Pz f x t each ht (by have:=Ql hx;omega)
end Go.Proofs.YtbibeionenjmfaaGreatDoor
namespace Go.Proofs.YtbibeionenjmfaaGreatDoor
open Go.RowKit
theorem Ajn {e:Ah} (h:Tp e=true):e=Qg:=by
 obtain⟨k,n,s,a⟩:=e
 simp only [Tp,Bool.and_eq_true,beq_iff_eq,List.isEmpty_iff] at h
 obtain⟨rfl,rfl,hs,rfl⟩:=h
 unfold Qg
 rw [show s=tx [] from Dc (by rw [hs,tl,Ap])]
theorem Jh {r:Aw} (h:Cj r=0):Gz r∧(r.Bc=0→r.cond=Qg∧r.C1=tx [])∧(10:UInt8) ∉ r.C1.data.toList:=by
 have hok:=Gz.of h
 have hc:C6 r=0:=by
  unfold Cj at h
  split at h
  ·rename_i h2;exact absurd h h2
  ·rename_i h2;exact Classical.not_not.1 h2
 refine⟨hok,fun hw=> ?_,?_⟩
 ·rw [C6,if_pos hw] at hc
  split at hc
  ·rename_i h2
   exact⟨Ajn h2.2,Dc (by rw [List.isEmpty_iff.1 h2.1,tl,Ap])⟩
  ·cases hc
 ·unfold C6 at hc
  split at hc
  ·split at hc
   ·rename_i h2
    rw [←tl,List.isEmpty_iff.1 h2.1];simp
   ·cases hc
  ·split at hc
   ·split at hc
    ·rename_i h2
     exact fun hm=> by have h3:=h2.2;rw [decide_eq_false_iff_not] at h3;exact h3 (N1 hm)
    ·cases hc
   ·cases hc
theorem Ah4 (l:List UInt8):B5 Dn (101::97::99::104::32::l)=true:=rfl
theorem Pl {w:List UInt8} {a b:UInt8} {l:List UInt8} (h:a≠b):B5 (a::w) (b::l)=false:=by
 unfold B5
 simp [List.isPrefixOf,h]
theorem Ae1 (r:Aw) (l:List UInt8):∃ c t,Ea r++([107,101,121,32]++l)=c::t∧c≠101:=by
 unfold Ea
 split
 ·exact⟨_,_,rfl,by decide⟩
 ·split
  ·exact⟨_,_,rfl,by decide⟩
  ·exact⟨_,_,rfl,by decide⟩
theorem Ajw {r:Aw} (h:Cj r=0) (l:List UInt8):Eu (Ea r++([107,101,121,32]++l))=(r.cond,r.C1.data.toList, [107,101,121,32]++l,false)∧Hg (Ea r++([107,101,121,32]++l))=r.Bc:=by
 obtain⟨hok,hb,_⟩:=Jh h
 by_cases h0:r.Bc=0
 ·obtain⟨hc,ht⟩:=hb h0
  have e:Ea r++([107,101,121,32]++l)=107::101::121::32::l:=by unfold Ea;rw [if_pos h0];rfl
  rw [e]
  have n1:B5 P3 (107::101::121::32::l)=false:=Pl (by decide)
  have n2:B5 M9 (107::101::121::32::l)=false:=Pl (by decide)
  have hw:Hg (107::101::121::32::l)=0:=by simp [Hg,n1,n2]
  refine⟨?_,by rw [hw,h0]⟩
  unfold Eu
  rw [if_pos hw,hc,ht]
  simp [Cy,n1,n2,Ap]
 ·obtain⟨c1,c2,c3⟩:=hok.cond h0
  have hx:Bq 5 (Az r.cond++(32::(B4 r.C1.data.toList++(32::([107,101,121,32]++l))))) false=(r.cond,B4 r.C1.data.toList++(32::([107,101,121,32]++l)),false):=by
   rw [Lx 5 _ true r.each _ c3 c2 (Ji _)];rfl
  have hq:Bz (B4 r.C1.data.toList++(32::([107,101,121,32]++l)))=(r.C1.data.toList, [107,101,121,32]++l,false):=by
   rw [U1 _ (Ji _)];rfl
  rcases hok.whn with h1 | h1 | h1
  ·exact absurd h1 h0
  ·have e:Ea r++([107,101,121,32]++l)=115::97::109::101::32::(Az r.cond++(32::(B4 r.C1.data.toList++(32::([107,101,121,32]++l))))):=by
    unfold Ea;rw [if_neg h0,if_pos h1];simp
   rw [e]
   have n1:B5 P3 (115::97::109::101::32::(Az r.cond++(32::(B4 r.C1.data.toList++(32::([107,101,121,32]++l))))))=true:=rfl
   have hw:Hg (115::97::109::101::32::(Az r.cond++(32::(B4 r.C1.data.toList++(32::([107,101,121,32]++l))))))=1:=by unfold Hg;rw [if_pos n1]
   have ha:Cy (115::97::109::101::32::(Az r.cond++(32::(B4 r.C1.data.toList++(32::([107,101,121,32]++l))))))=Az r.cond++(32::(B4 r.C1.data.toList++(32::([107,101,121,32]++l)))):=by unfold Cy;rw [if_pos n1];rfl
   refine⟨?_,by rw [hw,h1]⟩
   unfold Eu
   rw [if_neg (by rw [hw];decide),ha,hx]
   simp only [hq,Bool.or_self]
  ·have e:Ea r++([107,101,121,32]++l)=111::116::104::101::114::32::(Az r.cond++(32::(B4 r.C1.data.toList++(32::([107,101,121,32]++l))))):=by
    unfold Ea;rw [if_neg h0,if_neg (by omega)];simp
   rw [e]
   have n0:B5 P3 (111::116::104::101::114::32::(Az r.cond++(32::(B4 r.C1.data.toList++(32::([107,101,121,32]++l))))))=false:=Pl (by decide)
   have n1:B5 M9 (111::116::104::101::114::32::(Az r.cond++(32::(B4 r.C1.data.toList++(32::([107,101,121,32]++l))))))=true:=rfl
   have hw:Hg (111::116::104::101::114::32::(Az r.cond++(32::(B4 r.C1.data.toList++(32::([107,101,121,32]++l))))))=2:=by unfold Hg;rw [if_neg (by rw [n0];decide),if_pos n1]
   have ha:Cy (111::116::104::101::114::32::(Az r.cond++(32::(B4 r.C1.data.toList++(32::([107,101,121,32]++l))))))=Az r.cond++(32::(B4 r.C1.data.toList++(32::([107,101,121,32]++l)))):=by unfold Cy;rw [if_neg (by rw [n0];decide),if_pos n1];rfl
   refine⟨?_,by rw [hw,h1]⟩
   unfold Eu
   rw [if_neg (by rw [hw];decide),ha,hx]
   simp only [hq,Bool.or_self]
theorem N5 {r:Aw} (h:Cj r=0):Dk (Hb r)=(r,false):=by
 obtain⟨hok,_,_⟩:=Jh h
 obtain⟨k1,k2,k3⟩:=hok.key
 obtain⟨v1,v2,v3⟩:=hok.val
 have hE:B5 Dn (Hb r)=r.each∧Ay Dn (Hb r)=Ea r++([107,101,121,32]++(Az r.key++([32,118,97,108,32]++Az r.val))):=by
  unfold Hb
  cases he:r.each with
  | true=>
    have n1:B5 Dn (Hz true++(Ea r++([107,101,121,32]++(Az r.key++([32,118,97,108,32]++Az r.val)))))=true:=Ah4 _
    refine⟨n1,?_⟩
    unfold Ay
    rw [if_pos n1];rfl
  | false=>
    obtain⟨c,t,e,hc⟩:=Ae1 r (Az r.key++([32,118,97,108,32]++Az r.val))
    have e2:Hz false++(Ea r++([107,101,121,32]++(Az r.key++([32,118,97,108,32]++Az r.val))))=c::t:=by rw [e];rfl
    have n1:B5 Dn (c::t)=false:=Pl (fun h=> hc h.symm)
    rw [e2]
    refine⟨n1,?_⟩
    unfold Ay
    rw [if_neg (by rw [n1];decide),←e]
 obtain⟨hc,hw⟩:=Ajw h (Az r.key++([32,118,97,108,32]++Az r.val))
 have hK:Su ([107,101,121,32]++(Az r.key++([32,118,97,108,32]++Az r.val))) false=(r.key, [118,97,108,32]++Az r.val,false):=by
  have n1:B5 Oy ([107,101,121,32]++(Az r.key++([32,118,97,108,32]++Az r.val)))=true:=rfl
  unfold Su Ay
  rw [n1]
  have e:([107,101,121,32]++(Az r.key++([32,118,97,108,32]++Az r.val))).drop (Oy.length+1)=Az r.key++(32::([118,97,108,32]++Az r.val)):=rfl
  rw [if_pos rfl,e]
  show Bq 5 _ false=_
  rw [Lx 5 _ true r.each _ k3 k2 (Ji _)];rfl
 have hV:Aca ([118,97,108,32]++Az r.val) false=(r.val, [],false):=by
  have n1:B5 Oz ([118,97,108,32]++Az r.val)=true:=rfl
  unfold Aca Ay
  rw [n1]
  have e:([118,97,108,32]++Az r.val).drop (Oz.length+1)=Az r.val++ []:=by rw [List.append_nil];rfl
  rw [if_pos rfl,e]
  show Bq 5 _ false=_
  rw [Lx 5 _ false r.each _ v3 v2 (.inl rfl)];rfl
 unfold Dk
 simp only [hE.1,hE.2,hc,hw,hK,hV,P2]
 rfl
theorem Ala {r:Aw} (h:Cj r=0):(10:UInt8) ∉ Hb r:=by
 obtain⟨hok,hb,ht⟩:=Jh h
 obtain⟨k1,k2,k3⟩:=hok.key
 obtain⟨v1,v2,v3⟩:=hok.val
 have hx:=Pz 5 _ _ _ k3 k2
 have hy:=Pz 5 _ _ _ v3 v2
 have hw:(10:UInt8) ∉ Ea r:=by
  unfold Ea
  split
  ·simp
  ·rename_i h0
   obtain⟨c1,c2,c3⟩:=hok.cond h0
   have hz:=Pz 5 _ _ _ c3 c2
   have hq:=Abv ht
   simp only [List.mem_append,List.mem_cons,not_or]
   refine⟨?_,hz,by decide,hq,by decide,by simp⟩
   split <;> decide
 unfold Hb
 simp only [List.mem_append,not_or]
 refine⟨?_,hw,by decide,hx,by decide,hy⟩
 unfold Hz
 split <;> decide
def Tz (ls:List (List UInt8)):List UInt8:=ls.flatMap fun l=> l++ [10]
theorem Xy:∀ (ls:List (List UInt8)) (l:List UInt8),(∀ x∈ls,(10:UInt8) ∉ x)→(10:UInt8) ∉ l→splitAt 10 (Tz ls++l)=ls++ [l]
 | [],l,_,hl=> by
   have e:Tz []++l=l:=rfl
   rw [e,Ex hl];rfl
 | x::ls,l,h,hl=> by
   have e:Tz (x::ls)++l=x++10::(Tz ls++l):=by simp [Tz]
   rw [e,Fq (h x List.mem_cons_self),Xy ls l (fun y hy=> h y (List.mem_cons_of_mem _ hy)) hl]
   rfl
theorem Ahz (ls:List (List UInt8)) (l:List UInt8) (h:∀ x∈ls,(10:UInt8) ∉ x) (hl:(10:UInt8) ∉ l):C5 (Tz (ls++ [l]))=ls++ [l]:=by
 have e:Tz (ls++ [l])=(Tz ls++l)++ [10]:=by simp [Tz]
 unfold C5 Et
 rw [e,List.getLast?_concat,if_pos rfl,List.dropLast_concat]
 exact Xy ls l h hl
theorem Akg (rs:List Aw) (fold slices:Int) (early:Bool):Ke rs fold slices early=Tz (Jv fold slices early::rs.map Hb):=by
 unfold Ke Tz
 rw [List.flatMap_cons,List.flatMap_map]
 simp
theorem Wt (k:Int):(32:UInt8) ∉ C3 k∧(10:UInt8) ∉ C3 k:=by
 unfold C3
 constructor <;> (repeat' split) <;> decide
theorem Adg {k:Int} (h:1≤k∧k≤4):He (C3 k)=k:=by
 have h1:k=1∨k=2∨k=3∨k=4:=by omega
 rcases h1 with rfl | rfl | rfl | rfl <;> decide
theorem Aj5 (fold slices:Int) (early:Bool):(10:UInt8) ∉ Jv fold slices early:=by
 unfold Jv
 simp only [List.mem_append,List.mem_cons,not_or]
 refine⟨(Wt fold).2,by decide,(Pe slices).2,?_⟩
 split <;> decide
theorem Adm {fold slices:Int} (early:Bool) (hf:1≤fold∧fold≤4) (hs:1≤slices∧slices≤4):T8 (Jv fold slices early)=(fold,slices,early,false):=by
 obtain⟨n1,n2⟩:=Us (v:=slices) (by omega)
 have h1:Ax (Jv fold slices early)=(C3 fold,Lib.itoa slices++(if early=true then [32,101,97,114,108,121] else [])):=by
  unfold Jv
  rw [Na (Wt fold).1 (Ji _)];rfl
 have h2:Ax (Lib.itoa slices++(if early=true then [32,101,97,114,108,121] else []))=(Lib.itoa slices,if early=true then Tw else []):=by
  cases early
  ·have e:=Na (Pe slices).1 (R:= []) (.inl rfl)
   simpa using e
  ·have e:=Na (Pe slices).1 (R:= [32,101,97,114,108,121]) (Ji _)
   simpa [Tw] using e
 unfold T8
 simp only [h1,h2,Adg hf,n1,n2]
 cases early <;> rfl
theorem Lv {rs:List Aw} {fold slices:Int} {early:Bool} (h:Dv rs fold slices=0):Dl (Ke rs fold slices early)=(rs,fold,slices,early,false):=by
 obtain⟨⟨hl,_⟩,hf,hs,hr⟩:=Lo h
 have hl2:C5 (Ke rs fold slices early)=Jv fold slices early::rs.map Hb:=by
  rw [Akg]
  obtain⟨ls,l,e⟩:∃ ls l,Jv fold slices early::rs.map Hb=ls++ [l]:=⟨_,_,(List.dropLast_concat_getLast (by simp)).symm⟩
  have hall:∀ x∈Jv fold slices early::rs.map Hb,(10:UInt8) ∉ x:=by
   intro x hx
   rcases List.mem_cons.1 hx with rfl | hx
   ·exact Aj5 _ _ _
   ·obtain⟨r,hr1,rfl⟩:=List.mem_map.1 hx
    exact Ala (hr r hr1)
  rw [e] at hall ⊢
  exact Ahz ls l (fun x hx=> hall x (List.mem_append_left _ hx)) (hall l (by simp))
 unfold Dl
 rw [hl2]
 simp only [List.drop_succ_cons,List.drop_zero,List.headD_cons,Adm early hf hs,List.map_map,List.any_map]
 have e1:(rs.map ((fun l=> (Dk l).1) ∘ Hb))=rs:=by
  conv=> rhs;rw [←List.map_id rs]
  exact List.map_congr_left fun r hr1=> by simp [N5 (hr r hr1)]
 have e2:rs.any ((fun l=> (Dk l).2) ∘ Hb)=false:=by
  rw [List.any_eq_false]
  intro r hr1
  simp [N5 (hr r hr1)]
 rw [e1,e2]
 rfl
end Go.Proofs.YtbibeionenjmfaaGreatDoor
namespace Go.Proofs.YtbibeionenjmfaaGreatDoor
open Go.RowKit
def Rd (w:World) (rb:Nat) (s:List UInt8) (bad:Bool):Prop:=Bk w rb [.string (tx s), .bool bad]
theorem Rd.s {w:World} {rb:Nat} {s:List UInt8} {bad:Bool} (h:Rd w rb s bad):w.cell? ⟨rb,0,none⟩=some (.string (tx s)):=Bk.get h (j:=0) rfl
theorem Rd.bad {w:World} {rb:Nat} {s:List UInt8} {bad:Bool} (h:Rd w rb s bad):w.cell? ⟨rb,1,none⟩=some (.bool bad):=Bk.get h (j:=1) rfl
theorem Rd.later {w w':World} {rb:Nat} {s:List UInt8} {bad:Bool} (h:Rd w rb s bad) (hb:Below w.heap.size w w'):Rd w' rb s bad:=Bk.later h hb
theorem Rd.Ic {w:World} {rb:Nat} {s:List UInt8} {bad:Bool} (h:Rd w rb s bad) (s':List UInt8):Rd (w.setCell ⟨rb,0,none⟩ (.string (tx s'))) rb s' bad:=Bk.set (k:=0) h _ rfl
theorem Rd.E9 {w:World} {rb:Nat} {s:List UInt8} {bad:Bool} (h:Rd w rb s bad) (b':Bool):Rd (w.setCell ⟨rb,1,none⟩ (.bool b')) rb s b':=Bk.set (k:=1) h _ rfl
theorem Ub {w w1:World} {rb:Nat} (h:Below w.heap.size w w1) (k:Nat) (v:Value):Ab (fun q=> q=rb) w (w1.setCell ⟨rb,k,none⟩ v):=Ab.setCell (S:=fun q=> q=rb) (Ab.Ai h (Nat.le_refl _)) (p:=⟨rb,k,none⟩) rfl v
theorem I3 (s:List UInt8):(Ax s).1.length≤s.length∧(Ax s).2.length≤s.length:=by
 unfold Ax
 rcases Ge 32 s with h | ⟨A,B,rfl,hA⟩
 ·rw [Kn h];simp
 ·rw [Fz hA];simp;omega
set_option maxRecDepth 100000 in
theorem Ace (rb:Nat) (s:List UInt8) (bad:Bool) (w:World) (hg:GM w) (h:Rd w rb s bad) (hs:s.length≤100000):
 Calls Tryz.prog 136 #[.pointer (some ⟨rb,0,none⟩)] w fun e w'=> (e= .returned (.string (tx (Ax s).1))∧Rd w' rb (Ax s).2 bad)∧Ab (fun q=> q=rb) w w':=by
 have HC:=Aa (Sy (tx s) 32 w hg (by rw [Am];omega))
 rw [Ap] at HC
 have HR:=Aa h
 have c0:=h.s
 have HW:Hid (Ax s=((cutAt 32 s).1,(cutAt 32 s).2.1)):=rfl
 clear h hg
 generalize (cutAt 32 s).1=A at *
 generalize (cutAt 32 s).2.1=B at *
 go_enter Tryz.func136,Tryz.ntmps136
 go_wp2_with fail
 refine HC.out.mono ?_
 rintro e w1 ⟨rfl,b1⟩
 have HR1:=Aa (HR.out.later b1)
 have d0:=HR1.out.s
 have z0:=Bk.fz HR1.out 0
 have HK:=Aa (Ub (rb:=rb) b1 0 (.string (tx B)))
 clear b1 HC HR
 go_wp2
 go_ret
 rw [HW.out]
 exact⟨⟨rfl,HR1.out.Ic B⟩,HK.out⟩
set_option maxRecDepth 100000 in
theorem Ms (rb:Nat) (s:List UInt8) (bad:Bool) (v:ByteArray) (w:World) (h:Rd w rb s bad) (hv:v.size≤1000):
 Calls Tryz.prog 137 #[.pointer (some ⟨rb,0,none⟩), .string v] w fun e w'=> (e= .returned (.bool (B5 v.data.toList s))∧Rd w' rb (Ay v.data.toList s) bad)∧Ab (fun q=> q=rb) w w':=by
 have HC:=Aa (Tryz.strings_CutPrefix (tx s) (v++⟨#[32]⟩) w)
 have e1:(v++⟨#[32]⟩:ByteArray).data.toList=v.data.toList++ [32]:=by simp [ByteArray.data_append]
 rw [Ap,e1,show Lib.hasPrefix s (v.data.toList++ [32])=B5 v.data.toList s from rfl,show(⟨(Lib.trimPrefix s (v.data.toList++ [32])).toArray⟩:ByteArray)=tx (Lib.trimPrefix s (v.data.toList++ [32])) from rfl] at HC
 have HA:Hid (B5 v.data.toList s=true→Lib.trimPrefix s (v.data.toList++ [32])=Ay v.data.toList s):=fun hn=> by
  unfold Lib.trimPrefix Ay
  rw [if_pos hn,if_pos (show Lib.hasPrefix s (v.data.toList++ [32])=true from hn)]
  simp
 have HB:Hid (B5 v.data.toList s=false→s=Ay v.data.toList s):=fun hn=> by
  unfold Ay
  rw [if_neg (by rw [hn];decide)]
 have HR:=Aa h
 have c0:=h.s
 have z0:=Bk.fz h 0
 have n1:¬ 9223372036854775807 < v.size+1:=by omega
 clear h e1
 generalize Lib.trimPrefix s (v.data.toList++ [32])=T at *
 obtain⟨nb,hnb⟩:∃ nb,B5 v.data.toList s=nb:=⟨_,rfl⟩
 rw [hnb] at HC HA HB ⊢
 clear hnb
 cases nb with
 | true=>
   have HT:=Aa (HA.out rfl)
   have HK:=Aa (Ub (rb:=rb) (Below.refl w.heap.size w) 0 (.string (tx T)))
   clear HA HB
   go_enter Tryz.func137,Tryz.ntmps137
   go_wp2_with fail
   refine HC.out.mono ?_
   rintro e w1 ⟨rfl,rfl⟩
   go_wp2
   go_ret
   rw [←HT.out]
   exact⟨⟨rfl,HR.out.Ic T⟩,HK.out⟩
 | false=>
   have HT:=Aa (HB.out rfl)
   clear HA HB
   go_enter Tryz.func137,Tryz.ntmps137
   go_wp2_with fail
   refine HC.out.mono ?_
   rintro e w1 ⟨rfl,rfl⟩
   go_wp2
   go_ret
   rw [←HT.out]
   exact⟨⟨rfl,HR.out⟩,Ab.refl _ _⟩
set_option maxRecDepth 100000 in
set_option maxHeartbeats 1000000 in
theorem J2 (rb:Nat) (s:List UInt8) (bad:Bool) (w:World) (hg:GW w) (hgr:∀ w',Ab (fun q=> q=rb) w w'→GW w') (h:Rd w rb s bad) (hs:s.length≤100000):
 Calls Tryz.prog 102 #[.pointer (some ⟨rb,0,none⟩)] w fun e w'=> (e= .returned (.int .i64 (Ci (Ax s).1))∧Rd w' rb (Ax s).2 (bad || !Dg (Ax s).1))∧Ab (fun q=> q=rb) w w':=by
 have HW:=Aa (Ace rb s bad w hg.gm h hs)
 have HWL:=Aa (I3 s)
 have HGR:=Aa hgr
 have HNO:Hid (Dg (Ax s).1=(Mg (Ax s).1 && decide (Lib.itoa (Ci (Ax s).1)=(Ax s).1))):=Ur _
 clear hg hgr h
 generalize (Ax s).1=A at *
 generalize (Ax s).2=B at *
 go_enter Tryz.func102,Tryz.ntmps102
 go_wp2_with fail
 refine HW.out.mono ?_
 rintro e w1 ⟨⟨rfl,hr1⟩,k1⟩
 have HR1:=Aa hr1
 have HK1:=Aa k1
 have hA:=Aa (Tb (tx A) w1 (HGR.out _ k1) (by rw [Am];have:=HWL.out.1;omega))
 rw [Ap] at hA
 clear hr1 k1 HW
 go_wp2_with fail
 refine hA.out.mono ?_
 rintro e w2 ⟨⟨ev,rfl,hev⟩,b2⟩
 have HR2:=Aa (HR1.out.later b2)
 have HK2:=Aa (HK1.out.trans (Ab.Ai b2 (Nat.le_refl _)))
 have d1:=HR2.out.bad
 have z1:=Bk.fz HR2.out 1
 have hbd:=Tl (l:=A)
 clear b2 hA
 cases bad with
 | true=>
   clear hev
   have HK:=Aa (HK2.out.setCell (p:=⟨rb,1,none⟩) rfl (.bool true))
   go_wp2
   go_ret
   exact⟨⟨rfl,HR2.out.E9 true⟩,HK.out⟩
 | false=>
   rcases hev with ⟨ho,rfl⟩ | ⟨ho,t,v,rfl⟩
   ·have HO:=Aa ho
    have HI:=Aa (Gc (Ci A) w2 (HGR.out _ HK2.out) hbd.1 hbd.2)
    clear ho
    generalize hvv:Ci A=v at *
    have HVV:=Aa hvv
    clear hvv
    go_wp2_with fail
    refine HI.out.mono ?_
    rintro e w3 ⟨rfl,b3⟩
    have HR3:=Aa (HR2.out.later b3)
    have HK3:=Aa (HK2.out.trans (Ab.Ai b3 (Nat.le_refl _)))
    clear d1 z1
    have d1:=HR3.out.bad
    have z1:=Bk.fz HR3.out 1
    have hbe:(!((tx (Lib.itoa v)).toList ==(tx A).toList))= !decide (Lib.itoa v=A):=by
     rw [tl,tl,Ap,Ap]
     by_cases he:Lib.itoa v=A
     ·rw [he];simp
     ·rw [decide_eq_false he,show(Lib.itoa v ==A)=false by rw [beq_eq_false_iff_ne];exact he]
    obtain⟨be,hbe2⟩:∃ be,decide (Lib.itoa v=A)=be:=⟨_,rfl⟩
    rw [hbe2] at hbe
    have HBE:=Aa hbe2
    have HNV:Hid (Dg A=be):=by show _=_;rw [HNO.out,HO.out,HBE.out,Bool.true_and]
    have HK:=Aa (HK3.out.setCell (p:=⟨rb,1,none⟩) rfl (.bool !be))
    clear hbe2 b3 HI
    cases be with
    | true=>
      go_wp2
      go_ret
      rw [HNV.out,HVV.out]
      exact⟨⟨rfl,HR3.out.E9 false⟩,HK.out⟩
    | false=>
      go_wp2
      go_ret
      rw [HNV.out,HVV.out]
      exact⟨⟨rfl,HR3.out.E9 true⟩,HK.out⟩
   ·have HNV:Hid (Dg A=false):=by show _=_;rw [HNO.out,ho,Bool.false_and]
    have HK:=Aa (HK2.out.setCell (p:=⟨rb,1,none⟩) rfl (.bool true))
    clear ho
    go_wp2
    go_ret
    rw [HNV.out]
    exact⟨⟨rfl,HR2.out.E9 true⟩,HK.out⟩
end Go.Proofs.YtbibeionenjmfaaGreatDoor
