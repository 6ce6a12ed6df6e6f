/- A reader of a line: a word, the next one, a number. -/
import Derived.Test.YtbibeionenjmfaaGreatDoorJobLaw
import Derived.Test.YtbibeionenjmfaaGreatDoorNamesM
import Derived.Test.YtbibeionenjmfaaGreatDoorDecI
import Derived.Test.YtbibeionenjmfaaGreatDoorLinesLaw
set_option linter.unusedSimpArgs false
set_option linter.unusedVariables false
namespace Go.Proofs.YtbibeionenjmfaaGreatDoor
open Go.RowKit
def I6 (l:List UInt8):List UInt8:=l.flatMap fun c=> if c=34∨c=92 then [92,c] else [c]
def Bu (l:List UInt8):List UInt8:=34::(I6 l++ [34])
def E7 (k n:Int):List UInt8:=if k=3∨k=6∨k=7 then 32::Lib.itoa n else []
def Ep (k:Int) (s:ByteArray):List UInt8:=if k=4 then 32::Bu s.data.toList else []
mutual
def Au:Af→List UInt8
 | .mk k n s a=> A6 k++(E7 k n++(Ep k s++Az a))
def Az:List Af→List UInt8
 | []=> []
 | x::l=> 32::(Au x++Az l)
end
def Hw (b:Bool):List UInt8:=if b=true then [101,97,99,104,32] else []
def D6 (r:Ax):List UInt8:=
 if r.A8=0 then [] else(if r.A8=1 then [115,97,109,101,32] else [111,116,104,101,114,32])++(Au r.cond++(32::(Bu r.Cy.data.toList++ [32])))
def Gy (r:Ax):List UInt8:=Hw r.each++(D6 r++([107,101,121,32]++(Au r.key++([32,118,97,108,32]++Au r.val))))
def C3 (k:Int):List UInt8:=
 if k=1 then [115,117,109] else if k=2 then [108,101,97,115,116] else if k=3 then [103,114,101,97,116,101,115,116] else if k=4 then [99,111,117,110,116] else []
def Jt (fold slices:Int) (early:Bool):List UInt8:=C3 fold++(32::(Lib.itoa slices++(if early=true then [32,101,97,114,108,121] else [])))
def J1 (rs:List Ax) (fold slices:Int) (early:Bool):List UInt8:=Jt fold slices early++(10::rs.flatMap fun r=> Gy r++ [10])
def At (s:List UInt8):List UInt8×List UInt8:=((cutAt 32 s).1,(cutAt 32 s).2.1)
def Gg:List UInt8→Option (List UInt8×List UInt8)
 | []=> none
 | [c]=> if c=34 then some ([], []) else none
 | c::d::l=> if c=92 then(Gg l).map fun p=> (d::p.1,p.2) else if c=34 then some ([],d::l) else(Gg (d::l)).map fun p=> (c::p.1,p.2)
def Bs (s:List UInt8):List UInt8×List UInt8×Bool:=
 match s with
 | []=> ([], [],true)
 | c::l=> if c=34 then(match Gg l with
    | some (t,r)=> (match r with
      | []=> (t, [],false)
      | d::r'=> if d=32 then(t,r',false) else(t,d::r',true))
    | none=> ([],c::l,true)) else([],c::l,true)
def Ch (w:List UInt8):Int:=
 if w=A6 1 then 1 else if w=A6 2 then 2 else if w=A6 3 then 3 else if w=A6 4 then 4 else if w=A6 5 then 5
 else if w=A6 6 then 6 else if w=A6 7 then 7 else if w=A6 8 then 8 else if w=A6 9 then 9 else if w=A6 10 then 10 else 0
def Mj (k:Int):Nat:=if k=6∨k=8 then 1 else if k=5∨k=10 then 2 else 0
def Bj (rd:List UInt8→Af×List UInt8×Bool):Nat→List UInt8→Bool→List Af×List UInt8×Bool
 | 0,s,bad=> ([],s,bad)
 | m+1,s,bad=> if bad=true then([],s,bad) else((rd s).1::(Bj rd m (rd s).2.1 (rd s).2.2).1,(Bj rd m (rd s).2.1 (rd s).2.2).2)
def Ou (k:Int) (s:List UInt8):Int×List UInt8×Bool:=if k=3∨k=6∨k=7 then(Cf (At s).1,(At s).2,!Db (At s).1) else(0,s,false)
def X8 (k:Int) (s:List UInt8):List UInt8×List UInt8×Bool:=if k=4 then Bs s else([],s,false)
def Ix (s:List UInt8):Int×Int×List UInt8×List UInt8×Bool:=
 (Ch (At s).1,(Ou (Ch (At s).1) (At s).2).1,(X8 (Ch (At s).1) (Ou (Ch (At s).1) (At s).2).2.1).1,(X8 (Ch (At s).1) (Ou (Ch (At s).1) (At s).2).2.1).2.1,
  decide (Ch (At s).1=0) || ((Ou (Ch (At s).1) (At s).2).2.2 || (X8 (Ch (At s).1) (Ou (Ch (At s).1) (At s).2).2.1).2.2))
def Bl:Nat→List UInt8→Bool→Af×List UInt8×Bool
 | 0,s,_=> (.mk (Ix s).1 (Ix s).2.1 (tx (Ix s).2.2.1) [],(Ix s).2.2.2.1,true)
 | f+1,s,bad=>
   let c:=Bj (fun s=> Bl f s false) (Mj (Ix s).1) (Ix s).2.2.2.1 (bad || (Ix s).2.2.2.2)
   (.mk (Ix s).1 (Ix s).2.1 (tx (Ix s).2.2.1) c.1,c.2.1,c.2.2)
def Bw (w s:List UInt8):Bool:=(w++ [32]).isPrefixOf s
def Av (w s:List UInt8):List UInt8:=if Bw w s=true then s.drop (w.length+1) else s
def Dj:List UInt8:= [101,97,99,104]
def Pb:List UInt8:= [115,97,109,101]
def Mg:List UInt8:= [111,116,104,101,114]
def Oa:List UInt8:= [107,101,121]
def N7:List UInt8:= [118,97,108]
def Hb (s:List UInt8):Int:=if Bw Pb s=true then 1 else if Bw Mg s=true then 2 else 0
def Cs (s:List UInt8):List UInt8:=if Bw Pb s=true then s.drop 5 else if Bw Mg s=true then s.drop 6 else s
def Qi:Af:= .mk 0 0 (tx []) []
def Em (s:List UInt8):Af×List UInt8×List UInt8×Bool:=
 if Hb s=0 then(Qi, [],Cs s,false)
 else((Bl 5 (Cs s) false).1,(Bs (Bl 5 (Cs s) false).2.1).1,(Bs (Bl 5 (Cs s) false).2.1).2.1,(Bl 5 (Cs s) false).2.2 || (Bs (Bl 5 (Cs s) false).2.1).2.2)
def Sb (s:List UInt8) (bad:Bool):Af×List UInt8×Bool:=Bl 5 (Av Oa s) (!Bw Oa s || bad)
def Zo (s:List UInt8) (bad:Bool):Af×List UInt8×Bool:=Bl 5 (Av N7 s) (!Bw N7 s || bad)
def Dh (s:List UInt8):Ax×Bool:=
 let e:=Bw Dj s
 let c:=Em (Av Dj s)
 let k:=Sb c.2.2.1 c.2.2.2
 let v:=Zo k.2.1 k.2.2
 (⟨e,Hb (Av Dj s),c.1,tx c.2.1,k.1,v.1⟩,v.2.2 || !v.2.1.isEmpty)
def Hc (w:List UInt8):Int:=if w=C3 1 then 1 else if w=C3 2 then 2 else if w=C3 3 then 3 else if w=C3 4 then 4 else 0
def Tg:List UInt8:= [101,97,114,108,121]
def Th (h:List UInt8):Int×Int×Bool×Bool:=
 (Hc (At h).1,Cf (At (At h).2).1,decide ((At (At h).2).2=Tg),!Db (At (At h).2).1)
def Di (s:List UInt8):List Ax×Int×Int×Bool×Bool:=
 (((C1 s).drop 1).map fun l=> (Dh l).1,(Th ((C1 s).headD [])).1,(Th ((C1 s).headD [])).2.1,(Th ((C1 s).headD [])).2.2.1,
   (Th ((C1 s).headD [])).2.2.2 || ((C1 s).drop 1).any fun l=> (Dh l).2)
theorem Nn {l:List UInt8} {c:UInt8} (h:c∈l):0≤Lib.indexByte l c:=by
 have h1:=Lib.indexByte_ge l c
 rcases Int.lt_or_le (Lib.indexByte l c) 0 with h2 | h2
 ·obtain⟨k,hk⟩:=List.mem_iff_getElem?.1 h
  exact absurd hk (Lib.indexByte_none (by omega) k)
 ·exact h2
theorem Y0 {l:List UInt8} (h:(10:UInt8) ∉ l):(10:UInt8) ∉ Bu l:=by
 unfold Bu I6
 simp only [List.mem_cons,List.mem_append,List.mem_flatMap,not_or,not_exists,not_and,List.not_mem_nil,or_false]
 refine⟨by decide,fun c hc=> ?_,by decide⟩
 have:c≠10:=fun e=> h (e ▸ hc)
 split
 ·simp;exact fun e=> this e.symm
 ·simp;exact fun e=> this e.symm
def Sep (R:List UInt8):Prop:=R= []∨∃ R',R=32::R'
theorem Mi {w R:List UInt8} (h:(32:UInt8) ∉ w) (hR:Sep R):At (w++R)=(w,R.drop 1):=by
 unfold At
 rcases hR with rfl | ⟨R',rfl⟩
 ·rw [List.append_nil,J7 h];rfl
 ·rw [Fs h];rfl
theorem Xa (k:Int):(32:UInt8) ∉ A6 k∧(10:UInt8) ∉ A6 k:=by
 unfold A6
 constructor <;> (repeat' split) <;> decide
theorem To {k:Int} (h:1≤k∧k≤10):Ch (A6 k)=k:=by
 have h1:k=1∨k=2∨k=3∨k=4∨k=5∨k=6∨k=7∨k=8∨k=9∨k=10:=by omega
 rcases h1 with rfl | rfl | rfl | rfl | rfl | rfl | rfl | rfl | rfl | rfl <;> decide
theorem Aas (R:List UInt8):∀ l:List UInt8,Gg (I6 l++34::R)=some (l,R)
 | []=> by
   cases R with
   | nil=> rfl
   | cons d R=> simp [I6,Gg]
 | c::l=> by
   have ih:=Aas R l
   by_cases hc:c=34∨c=92
   ·have e:I6 (c::l)++34::R=92::c::(I6 l++34::R):=by simp [I6,hc]
    rw [e,Gg,if_pos rfl,ih];rfl
   ·have e:I6 (c::l)++34::R=c::(I6 l++34::R):=by simp [I6,hc]
    rw [e]
    obtain⟨d,r,hd⟩:∃ d r,I6 l++34::R=d::r:=by
     cases h:I6 l++34::R with
     | nil=> simp at h
     | cons d r=> exact⟨d,r,rfl⟩
    rw [hd] at ih ⊢
    rw [Gg,if_neg (fun e=> hc (.inr e)),if_neg (fun e=> hc (.inl e)),ih];rfl
theorem T6 (l:List UInt8) {R:List UInt8} (hR:Sep R):Bs (Bu l++R)=(l,R.drop 1,false):=by
 have e:Bu l++R=34::(I6 l++34::R):=by simp [Bu]
 rw [e]
 unfold Bs
 simp only [if_pos,Aas]
 rcases hR with rfl | ⟨R',rfl⟩ <;> simp
theorem O4 (v:Int):(32:UInt8) ∉ Lib.itoa v∧(10:UInt8) ∉ Lib.itoa v:=⟨L4 (by decide) (by decide),L4 (by decide) (by decide)⟩
theorem Uf {v:Int} (h: -9223372036854775808≤v∧v≤9223372036854775807):Db (Lib.itoa v)=true∧Cf (Lib.itoa v)=v:=by
 have h1:Sf (Lib.itoa v)=some v:=Sn.2 ⟨h,rfl⟩
 have h2:Db (Lib.itoa v)=true:=by unfold Db;rw [h1];rfl
 refine⟨h2,?_⟩
 have h3:=J9 h2
 rw [h1] at h3
 exact(Option.some.inj h3).symm
theorem I5 (l:List UInt8):Sep (32::l):= .inr ⟨l,rfl⟩
theorem Sh {A R:List UInt8} (hA:Sep A) (hR:Sep R):Sep (A++R):=by
 rcases hA with rfl | ⟨A',rfl⟩
 ·exact hR
 ·exact .inr ⟨A'++R,rfl⟩
theorem Amm (k n:Int):Sep (E7 k n):=by unfold E7;split;exact I5 _;exact .inl rfl
theorem Amj (k:Int) (s:ByteArray):Sep (Ep k s):=by unfold Ep;split;exact I5 _;exact .inl rfl
theorem Aac (a:List Af):Sep (Az a):=by cases a <;> simp [Az,Sep]
theorem Aln {k n:Int} (hn:(k=3∨k=6∨k=7)∨n=0) (hb: -9223372036854775808≤n∧n≤9223372036854775807) {R:List UInt8} (hR:Sep R):
 Ou k ((E7 k n++R).drop 1)=(n,R.drop 1,false):=by
 unfold Ou E7
 by_cases hk:k=3∨k=6∨k=7
 ·rw [if_pos hk,if_pos hk]
  have e:(32::Lib.itoa n++R).drop 1=Lib.itoa n++R:=rfl
  rw [e,Mi (O4 n).1 hR]
  obtain⟨h1,h2⟩:=Uf hb
  simp [h1,h2]
 ·rw [if_neg hk,if_neg hk]
  rcases hn with h1 | rfl
  ·exact absurd h1 hk
  ·rfl
theorem Alc {k:Int} {s:ByteArray} (hs:k=4∨s.data.toList= []) {R:List UInt8} (hR:Sep R):X8 k ((Ep k s++R).drop 1)=(s.data.toList,R.drop 1,false):=by
 unfold X8 Ep
 by_cases hk:k=4
 ·rw [if_pos hk,if_pos hk]
  exact T6 _ hR
 ·rw [if_neg hk,if_neg hk]
  rcases hs with h1 | h1
  ·exact absurd h1 hk
  ·rw [h1];rfl
theorem Alf {k n:Int} {s:ByteArray} {a:List Af} (hk:1≤k∧k≤10) (hn:(k=3∨k=6∨k=7)∨n=0) (hb: -9223372036854775808≤n∧n≤9223372036854775807) (hs:k=4∨s.data.toList= []) {R:List UInt8} (hR:Sep R):
 Ix (Au (.mk k n s a)++R)=(k,n,s.data.toList,(Az a++R).drop 1,false):=by
 have e:Au (.mk k n s a)++R=A6 k++(E7 k n++(Ep k s++(Az a++R))):=by simp [Au]
 have s2:Sep (Az a++R):=Sh (Aac a) hR
 have s1:Sep (Ep k s++(Az a++R)):=Sh (Amj k s) s2
 have s0:Sep (E7 k n++(Ep k s++(Az a++R))):=Sh (Amm k n) s1
 unfold Ix
 rw [e,Mi (Xa k).1 s0]
 simp only [To hk]
 rw [Aln hn hb s1,Alc hs s2]
 have:decide (k=0)=false:=by simp;omega
 simp [this]
theorem Ro (rd:List UInt8→Af×List UInt8×Bool) {R:List UInt8} (hR:Sep R):∀ (l:List Af),(∀ x∈l,∀ R',Sep R'→rd (Au x++R')=(x,R'.drop 1,false))→Bj rd l.length ((Az l++R).drop 1) false=(l,R.drop 1,false)
 | [],_=> by simp [Bj,Az]
 | x::l,h=> by
   have h1:=h x List.mem_cons_self (Az l++R) (Sh (Aac l) hR)
   have h2:=Ro rd hR l fun y hy=> h y (List.mem_cons_of_mem _ hy)
   have e:(Az (x::l)++R).drop 1=Au x++(Az l++R):=by simp [Az]
   rw [List.length_cons,Bj,e,h1]
   simp only [Bool.false_eq_true,if_false]
   rw [h2]
theorem Si:∀ {a:List Af} {ts:List Bool} {each:Bool},Vb a ts each=true→a.length=ts.length→∀ x∈a,∃ t,J0 x t each=true
 | [],_,_,_,_,x,hx=> by cases hx
 | a::l, [],_,_,h,x,hx=> by simp at h
 | a::l,t::ts,each,h,hl,x,hx=> by
   rw [Vb,Bool.and_eq_true] at h
   rcases List.mem_cons.1 hx with rfl | hx
   ·exact⟨t,h.1⟩
   ·exact Si h.2 (by simpa using hl) x hx
theorem Qt:∀ {a:List Af} {x:Af},x∈a→x.deep≤Af.T8 a
 | [],_,h=> by cases h
 | y::l,x,h=> by
   rw [Af.T8]
   rcases List.mem_cons.1 h with rfl | h
   ·exact Nat.le_max_left _ _
   ·exact Nat.le_trans (Qt h) (Nat.le_max_right _ _)
theorem Sp {k n:Int} {s:ByteArray} {a:List Af} {text each:Bool} (h:J0 (.mk k n s a) text each=true):
 (1≤k∧k≤10)∧((k=3∨k=6∨k=7)∨n=0)∧(-9223372036854775808≤n∧n≤9223372036854775807)∧(k=4∨s.data.toList= [])∧a.length=Mj k∧((10:UInt8) ∉ s.data.toList):=by
 obtain⟨h1,h2,h3,_,h5,_⟩:=Fu h
 have hn:((k=3∨k=6∨k=7)∨n=0)∧(-9223372036854775808≤n∧n≤9223372036854775807):=by
  unfold Oz at h2
  split at h2
  ·simp at h2;omega
  ·split at h2
   ·simp at h2;omega
   ·split at h2
    ·simp at h2;omega
    ·simp at h2;omega
 have hs:(k=4∨s.data.toList= [])∧((10:UInt8) ∉ s.data.toList):=by
  unfold Xn at h3
  split at h3
  ·rename_i hk
   refine⟨.inl hk,fun hm=> ?_⟩
   simp only [Bool.and_eq_true,Bool.not_eq_true',decide_eq_false_iff_not] at h3
   exact h3.2 (Nn hm)
  ·have:s.data.toList= []:=by rw [←tl];exact List.isEmpty_iff.1 h3
   exact⟨.inr this,by rw [this];simp⟩
 refine⟨h1,hn.1,hn.2,hs.1,?_,hs.2⟩
 rw [h5]
 unfold Dm Mj
 have hk:k=1∨k=2∨k=3∨k=4∨k=5∨k=6∨k=7∨k=8∨k=9∨k=10:=by omega
 rcases hk with rfl | rfl | rfl | rfl | rfl | rfl | rfl | rfl | rfl | rfl <;> rfl
theorem Lg:∀ (f:Nat) (e:Af) (text each:Bool) (R:List UInt8),J0 e text each=true→e.deep≤f→Sep R→Bl f (Au e++R) false=(e,R.drop 1,false)
 | 0,e,_,_,_,_,hd,_=> by
   obtain⟨k,n,s,a⟩:=e
   rw [Af.deep] at hd
   omega
 | f+1,e,text,each,R,h,hd,hR=> by
   obtain⟨k,n,s,a⟩:=e
   obtain⟨h1,h2,h3,h4,h5,_⟩:=Sp h
   obtain⟨_,_,_,_,h6,h7⟩:=Fu h
   rw [Af.deep] at hd
   rw [Bl]
   simp only [Alf (a:=a) h1 h2 h3 h4 hR,Bool.or_false]
   rw [←h5,Ro _ hR a fun x hx R' hR'=> ?_]
   ·simp only [Pe]
   ·obtain⟨t,ht⟩:=Si h7 h6 x hx
    exact Lg f x t each R' ht (by have:=Qt hx;omega) hR'
theorem Pj:∀ (f:Nat) (e:Af) (text each:Bool),J0 e text each=true→e.deep≤f→(10:UInt8) ∉ Au e
 | 0,e,_,_,_,hd=> by
   obtain⟨k,n,s,a⟩:=e
   rw [Af.deep] at hd
   omega
 | f+1,e,text,each,h,hd=> by
   obtain⟨k,n,s,a⟩:=e
   obtain⟨h1,h2,h3,h4,h5,h6⟩:=Sp h
   obtain⟨_,_,_,_,h7,h8⟩:=Fu h
   rw [Af.deep] at hd
   have hk:∀ l:List Af,(∀ x∈l,(10:UInt8) ∉ Au x)→(10:UInt8) ∉ Az l:=by
    intro l
    induction l with
    | nil=> intro _;simp [Az]
    | cons x l ih=>
      intro h
      simp only [Az,List.mem_cons,List.mem_append,not_or]
      exact⟨by decide,h x List.mem_cons_self,ih fun y hy=> h y (List.mem_cons_of_mem _ hy)⟩
   rw [Au]
   simp only [List.mem_append,not_or]
   refine⟨(Xa k).2,?_,?_,hk a fun x hx=> ?_⟩
   ·unfold E7
    split
    ·simp only [List.mem_cons,not_or];exact⟨by decide,(O4 n).2⟩
    ·simp
   ·unfold Ep
    split
    ·simp only [List.mem_cons,not_or];exact⟨by decide,Y0 h6⟩
    ·simp
   ·obtain⟨t,ht⟩:=Si h8 h7 x hx
    exact Pj f x t each ht (by have:=Qt hx;omega)
end Go.Proofs.YtbibeionenjmfaaGreatDoor
namespace Go.Proofs.YtbibeionenjmfaaGreatDoor
open Go.RowKit
theorem Ai6 {e:Af} (h:Ur e=true):e=Qi:=by
 obtain⟨k,n,s,a⟩:=e
 simp only [Ur,Bool.and_eq_true,beq_iff_eq,List.isEmpty_iff] at h
 obtain⟨rfl,rfl,hs,rfl⟩:=h
 unfold Qi
 rw [show s=tx [] from C6 (by rw [hs,tl,An])]
theorem Ja {r:Ax} (h:Ce r=0):Gv r∧(r.A8=0→r.cond=Qi∧r.Cy=tx [])∧(10:UInt8) ∉ r.Cy.data.toList:=by
 have hok:=Gv.of h
 have hc:C5 r=0:=by
  unfold Ce at h
  split at h
  ·rename_i h2;exact absurd h h2
  ·rename_i h2;exact Classical.not_not.1 h2
 refine⟨hok,fun hw=> ?_,?_⟩
 ·rw [C5,if_pos hw] at hc
  split at hc
  ·rename_i h2
   exact⟨Ai6 h2.2,C6 (by rw [List.isEmpty_iff.1 h2.1,tl,An])⟩
  ·cases hc
 ·unfold C5 at hc
  split at hc
  ·split at hc
   ·rename_i h2
    rw [←tl,List.isEmpty_iff.1 h2.1];simp
   ·cases hc
  ·split at hc
   ·split at hc
    ·rename_i h2
     exact fun hm=> by have h3:=h2.2;rw [decide_eq_false_iff_not] at h3;exact h3 (Nn hm)
    ·cases hc
   ·cases hc
theorem Agf (l:List UInt8):Bw Dj (101::97::99::104::32::l)=true:=rfl
theorem Pn {w:List UInt8} {a b:UInt8} {l:List UInt8} (h:a≠b):Bw (a::w) (b::l)=false:=by
 unfold Bw
 simp [List.isPrefixOf,h]
theorem Adl (r:Ax) (l:List UInt8):∃ c t,D6 r++([107,101,121,32]++l)=c::t∧c≠101:=by
 unfold D6
 split
 ·exact⟨_,_,rfl,by decide⟩
 ·split
  ·exact⟨_,_,rfl,by decide⟩
  ·exact⟨_,_,rfl,by decide⟩
theorem Ai1 {r:Ax} (h:Ce r=0) (l:List UInt8):Em (D6 r++([107,101,121,32]++l))=(r.cond,r.Cy.data.toList, [107,101,121,32]++l,false)∧Hb (D6 r++([107,101,121,32]++l))=r.A8:=by
 obtain⟨hok,hb,_⟩:=Ja h
 by_cases h0:r.A8=0
 ·obtain⟨hc,ht⟩:=hb h0
  have e:D6 r++([107,101,121,32]++l)=107::101::121::32::l:=by unfold D6;rw [if_pos h0];rfl
  rw [e]
  have n1:Bw Pb (107::101::121::32::l)=false:=Pn (by decide)
  have n2:Bw Mg (107::101::121::32::l)=false:=Pn (by decide)
  have hw:Hb (107::101::121::32::l)=0:=by simp [Hb,n1,n2]
  refine⟨?_,by rw [hw,h0]⟩
  unfold Em
  rw [if_pos hw,hc,ht]
  simp [Cs,n1,n2,An]
 ·obtain⟨c1,c2,c3⟩:=hok.cond h0
  have hx:Bl 5 (Au r.cond++(32::(Bu r.Cy.data.toList++(32::([107,101,121,32]++l))))) false=(r.cond,Bu r.Cy.data.toList++(32::([107,101,121,32]++l)),false):=by
   rw [Lg 5 _ true r.each _ c3 c2 (I5 _)];rfl
  have hq:Bs (Bu r.Cy.data.toList++(32::([107,101,121,32]++l)))=(r.Cy.data.toList, [107,101,121,32]++l,false):=by
   rw [T6 _ (I5 _)];rfl
  rcases hok.whn with h1 | h1 | h1
  ·exact absurd h1 h0
  ·have e:D6 r++([107,101,121,32]++l)=115::97::109::101::32::(Au r.cond++(32::(Bu r.Cy.data.toList++(32::([107,101,121,32]++l))))):=by
    unfold D6;rw [if_neg h0,if_pos h1];simp
   rw [e]
   have n1:Bw Pb (115::97::109::101::32::(Au r.cond++(32::(Bu r.Cy.data.toList++(32::([107,101,121,32]++l))))))=true:=rfl
   have hw:Hb (115::97::109::101::32::(Au r.cond++(32::(Bu r.Cy.data.toList++(32::([107,101,121,32]++l))))))=1:=by unfold Hb;rw [if_pos n1]
   have ha:Cs (115::97::109::101::32::(Au r.cond++(32::(Bu r.Cy.data.toList++(32::([107,101,121,32]++l))))))=Au r.cond++(32::(Bu r.Cy.data.toList++(32::([107,101,121,32]++l)))):=by unfold Cs;rw [if_pos n1];rfl
   refine⟨?_,by rw [hw,h1]⟩
   unfold Em
   rw [if_neg (by rw [hw];decide),ha,hx]
   simp only [hq,Bool.or_self]
  ·have e:D6 r++([107,101,121,32]++l)=111::116::104::101::114::32::(Au r.cond++(32::(Bu r.Cy.data.toList++(32::([107,101,121,32]++l))))):=by
    unfold D6;rw [if_neg h0,if_neg (by omega)];simp
   rw [e]
   have n0:Bw Pb (111::116::104::101::114::32::(Au r.cond++(32::(Bu r.Cy.data.toList++(32::([107,101,121,32]++l))))))=false:=Pn (by decide)
   have n1:Bw Mg (111::116::104::101::114::32::(Au r.cond++(32::(Bu r.Cy.data.toList++(32::([107,101,121,32]++l))))))=true:=rfl
   have hw:Hb (111::116::104::101::114::32::(Au r.cond++(32::(Bu r.Cy.data.toList++(32::([107,101,121,32]++l))))))=2:=by unfold Hb;rw [if_neg (by rw [n0];decide),if_pos n1]
   have ha:Cs (111::116::104::101::114::32::(Au r.cond++(32::(Bu r.Cy.data.toList++(32::([107,101,121,32]++l))))))=Au r.cond++(32::(Bu r.Cy.data.toList++(32::([107,101,121,32]++l)))):=by unfold Cs;rw [if_neg (by rw [n0];decide),if_pos n1];rfl
   refine⟨?_,by rw [hw,h1]⟩
   unfold Em
   rw [if_neg (by rw [hw];decide),ha,hx]
   simp only [hq,Bool.or_self]
theorem Ni {r:Ax} (h:Ce r=0):Dh (Gy r)=(r,false):=by
 obtain⟨hok,_,_⟩:=Ja h
 obtain⟨k1,k2,k3⟩:=hok.key
 obtain⟨v1,v2,v3⟩:=hok.val
 have hE:Bw Dj (Gy r)=r.each∧Av Dj (Gy r)=D6 r++([107,101,121,32]++(Au r.key++([32,118,97,108,32]++Au r.val))):=by
  unfold Gy
  cases he:r.each with
  | true=>
    have n1:Bw Dj (Hw true++(D6 r++([107,101,121,32]++(Au r.key++([32,118,97,108,32]++Au r.val)))))=true:=Agf _
    refine⟨n1,?_⟩
    unfold Av
    rw [if_pos n1];rfl
  | false=>
    obtain⟨c,t,e,hc⟩:=Adl r (Au r.key++([32,118,97,108,32]++Au r.val))
    have e2:Hw false++(D6 r++([107,101,121,32]++(Au r.key++([32,118,97,108,32]++Au r.val))))=c::t:=by rw [e];rfl
    have n1:Bw Dj (c::t)=false:=Pn (fun h=> hc h.symm)
    rw [e2]
    refine⟨n1,?_⟩
    unfold Av
    rw [if_neg (by rw [n1];decide),←e]
 obtain⟨hc,hw⟩:=Ai1 h (Au r.key++([32,118,97,108,32]++Au r.val))
 have hK:Sb ([107,101,121,32]++(Au r.key++([32,118,97,108,32]++Au r.val))) false=(r.key, [118,97,108,32]++Au r.val,false):=by
  have n1:Bw Oa ([107,101,121,32]++(Au r.key++([32,118,97,108,32]++Au r.val)))=true:=rfl
  unfold Sb Av
  rw [n1]
  have e:([107,101,121,32]++(Au r.key++([32,118,97,108,32]++Au r.val))).drop (Oa.length+1)=Au r.key++(32::([118,97,108,32]++Au r.val)):=rfl
  rw [if_pos rfl,e]
  show Bl 5 _ false=_
  rw [Lg 5 _ true r.each _ k3 k2 (I5 _)];rfl
 have hV:Zo ([118,97,108,32]++Au r.val) false=(r.val, [],false):=by
  have n1:Bw N7 ([118,97,108,32]++Au r.val)=true:=rfl
  unfold Zo Av
  rw [n1]
  have e:([118,97,108,32]++Au r.val).drop (N7.length+1)=Au r.val++ []:=by rw [List.append_nil];rfl
  rw [if_pos rfl,e]
  show Bl 5 _ false=_
  rw [Lg 5 _ false r.each _ v3 v2 (.inl rfl)];rfl
 unfold Dh
 simp only [hE.1,hE.2,hc,hw,hK,hV,Pe]
 rfl
theorem Ajh {r:Ax} (h:Ce r=0):(10:UInt8) ∉ Gy r:=by
 obtain⟨hok,hb,ht⟩:=Ja h
 obtain⟨k1,k2,k3⟩:=hok.key
 obtain⟨v1,v2,v3⟩:=hok.val
 have hx:=Pj 5 _ _ _ k3 k2
 have hy:=Pj 5 _ _ _ v3 v2
 have hw:(10:UInt8) ∉ D6 r:=by
  unfold D6
  split
  ·simp
  ·rename_i h0
   obtain⟨c1,c2,c3⟩:=hok.cond h0
   have hz:=Pj 5 _ _ _ c3 c2
   have hq:=Y0 ht
   simp only [List.mem_append,List.mem_cons,not_or]
   refine⟨?_,hz,by decide,hq,by decide,by simp⟩
   split <;> decide
 unfold Gy
 simp only [List.mem_append,not_or]
 refine⟨?_,hw,by decide,hx,by decide,hy⟩
 unfold Hw
 split <;> decide
def Ta (ls:List (List UInt8)):List UInt8:=ls.flatMap fun l=> l++ [10]
theorem Wg:∀ (ls:List (List UInt8)) (l:List UInt8),(∀ x∈ls,(10:UInt8) ∉ x)→(10:UInt8) ∉ l→splitAt 10 (Ta ls++l)=ls++ [l]
 | [],l,_,hl=> by
   have e:Ta []++l=l:=rfl
   rw [e,Et hl];rfl
 | x::ls,l,h,hl=> by
   have e:Ta (x::ls)++l=x++10::(Ta ls++l):=by simp [Ta]
   rw [e,Fl (h x List.mem_cons_self),Wg ls l (fun y hy=> h y (List.mem_cons_of_mem _ hy)) hl]
   rfl
theorem Ahf (ls:List (List UInt8)) (l:List UInt8) (h:∀ x∈ls,(10:UInt8) ∉ x) (hl:(10:UInt8) ∉ l):C1 (Ta (ls++ [l]))=ls++ [l]:=by
 have e:Ta (ls++ [l])=(Ta ls++l)++ [10]:=by simp [Ta]
 unfold C1 Ee
 rw [e,List.getLast?_concat,if_pos rfl,List.dropLast_concat]
 exact Wg ls l h hl
theorem Aka (rs:List Ax) (fold slices:Int) (early:Bool):J1 rs fold slices early=Ta (Jt fold slices early::rs.map Gy):=by
 unfold J1 Ta
 rw [List.flatMap_cons,List.flatMap_map]
 simp
theorem We (k:Int):(32:UInt8) ∉ C3 k∧(10:UInt8) ∉ C3 k:=by
 unfold C3
 constructor <;> (repeat' split) <;> decide
theorem Aco {k:Int} (h:1≤k∧k≤4):Hc (C3 k)=k:=by
 have h1:k=1∨k=2∨k=3∨k=4:=by omega
 rcases h1 with rfl | rfl | rfl | rfl <;> decide
theorem Aio (fold slices:Int) (early:Bool):(10:UInt8) ∉ Jt fold slices early:=by
 unfold Jt
 simp only [List.mem_append,List.mem_cons,not_or]
 refine⟨(We fold).2,by decide,(O4 slices).2,?_⟩
 split <;> decide
theorem Aby {fold slices:Int} (early:Bool) (hf:1≤fold∧fold≤4) (hs:1≤slices∧slices≤4):Th (Jt fold slices early)=(fold,slices,early,false):=by
 obtain⟨n1,n2⟩:=Uf (v:=slices) (by omega)
 have h1:At (Jt fold slices early)=(C3 fold,Lib.itoa slices++(if early=true then [32,101,97,114,108,121] else [])):=by
  unfold Jt
  rw [Mi (We fold).1 (I5 _)];rfl
 have h2:At (Lib.itoa slices++(if early=true then [32,101,97,114,108,121] else []))=(Lib.itoa slices,if early=true then Tg else []):=by
  cases early
  ·have e:=Mi (O4 slices).1 (R:= []) (.inl rfl)
   simpa using e
  ·have e:=Mi (O4 slices).1 (R:= [32,101,97,114,108,121]) (I5 _)
   simpa [Tg] using e
 unfold Th
 simp only [h1,h2,Aco hf,n1,n2]
 cases early <;> rfl
theorem Ll {rs:List Ax} {fold slices:Int} {early:Bool} (h:Dp rs fold slices=0):Di (J1 rs fold slices early)=(rs,fold,slices,early,false):=by
 obtain⟨⟨hl,_⟩,hf,hs,hr⟩:=Na h
 have hl2:C1 (J1 rs fold slices early)=Jt fold slices early::rs.map Gy:=by
  rw [Aka]
  obtain⟨ls,l,e⟩:∃ ls l,Jt fold slices early::rs.map Gy=ls++ [l]:=⟨_,_,(List.dropLast_concat_getLast (by simp)).symm⟩
  have hall:∀ x∈Jt fold slices early::rs.map Gy,(10:UInt8) ∉ x:=by
   intro x hx
   rcases List.mem_cons.1 hx with rfl | hx
   ·exact Aio _ _ _
   ·obtain⟨r,hr1,rfl⟩:=List.mem_map.1 hx
    exact Ajh (hr r hr1)
  rw [e] at hall ⊢
  exact Ahf ls l (fun x hx=> hall x (List.mem_append_left _ hx)) (hall l (by simp))
 unfold Di
 rw [hl2]
 simp only [List.drop_succ_cons,List.drop_zero,List.headD_cons,Aby early hf hs,List.map_map,List.any_map]
 have e1:(rs.map ((fun l=> (Dh l).1) ∘ Gy))=rs:=by
  conv=> rhs;rw [←List.map_id rs]
  exact List.map_congr_left fun r hr1=> by simp [Ni (hr r hr1)]
 have e2:rs.any ((fun l=> (Dh l).2) ∘ Gy)=false:=by
  rw [List.any_eq_false]
  intro r hr1
  simp [Ni (hr r hr1)]
 rw [e1,e2]
 rfl
end Go.Proofs.YtbibeionenjmfaaGreatDoor
namespace Go.Proofs.YtbibeionenjmfaaGreatDoor
open Go.RowKit
def Rd (w:World) (rb:Nat) (s:List UInt8) (bad:Bool):Prop:=Bk w rb [.string (tx s), .bool bad]
theorem Rd.s {w:World} {rb:Nat} {s:List UInt8} {bad:Bool} (h:Rd w rb s bad):w.cell? ⟨rb,0,none⟩=some (.string (tx s)):=Bk.get h (j:=0) rfl
theorem Rd.bad {w:World} {rb:Nat} {s:List UInt8} {bad:Bool} (h:Rd w rb s bad):w.cell? ⟨rb,1,none⟩=some (.bool bad):=Bk.get h (j:=1) rfl
theorem Rd.later {w w':World} {rb:Nat} {s:List UInt8} {bad:Bool} (h:Rd w rb s bad) (hb:Below w.heap.size w w'):Rd w' rb s bad:=Bk.later h hb
theorem Rd.Hy {w:World} {rb:Nat} {s:List UInt8} {bad:Bool} (h:Rd w rb s bad) (s':List UInt8):Rd (w.setCell ⟨rb,0,none⟩ (.string (tx s'))) rb s' bad:=Bk.set (k:=0) h _ rfl
theorem Rd.E4 {w:World} {rb:Nat} {s:List UInt8} {bad:Bool} (h:Rd w rb s bad) (b':Bool):Rd (w.setCell ⟨rb,1,none⟩ (.bool b')) rb s b':=Bk.set (k:=1) h _ rfl
theorem Us {w w1:World} {rb:Nat} (h:Below w.heap.size w w1) (k:Nat) (v:Value):Ab (fun q=> q=rb) w (w1.setCell ⟨rb,k,none⟩ v):=Ab.setCell (S:=fun q=> q=rb) (Ab.Ag h (Nat.le_refl _)) (p:=⟨rb,k,none⟩) rfl v
theorem Iu (s:List UInt8):(At s).1.length≤s.length∧(At s).2.length≤s.length:=by
 unfold At
 rcases F7 32 s with h | ⟨A,B,rfl,hA⟩
 ·rw [J7 h];simp
 ·rw [Fs hA];simp;omega
set_option maxRecDepth 100000 in
theorem Abn (rb:Nat) (s:List UInt8) (bad:Bool) (w:World) (hg:GM w) (h:Rd w rb s bad) (hs:s.length≤100000):
 Calls Tryz.prog 136 #[.pointer (some ⟨rb,0,none⟩)] w fun e w'=> (e= .returned (.string (tx (At s).1))∧Rd w' rb (At s).2 bad)∧Ab (fun q=> q=rb) w w':=by
 have HC:=Aa (Sj (tx s) 32 w hg (by rw [Ak];omega))
 rw [An] at HC
 have HR:=Aa h
 have c0:=h.s
 have HW:Hid (At s=((cutAt 32 s).1,(cutAt 32 s).2.1)):=rfl
 clear h hg
 generalize (cutAt 32 s).1=A at *
 generalize (cutAt 32 s).2.1=B at *
 go_enter Tryz.func136,Tryz.ntmps136
 go_wp2_with fail
 refine HC.out.mono ?_
 rintro e w1 ⟨rfl,b1⟩
 have HR1:=Aa (HR.out.later b1)
 have d0:=HR1.out.s
 have z0:=Bk.fz HR1.out 0
 have HK:=Aa (Us (rb:=rb) b1 0 (.string (tx B)))
 clear b1 HC HR
 go_wp2
 go_ret
 rw [HW.out]
 exact⟨⟨rfl,HR1.out.Hy B⟩,HK.out⟩
set_option maxRecDepth 100000 in
theorem Mb (rb:Nat) (s:List UInt8) (bad:Bool) (v:ByteArray) (w:World) (h:Rd w rb s bad) (hv:v.size≤1000):
 Calls Tryz.prog 137 #[.pointer (some ⟨rb,0,none⟩), .string v] w fun e w'=> (e= .returned (.bool (Bw v.data.toList s))∧Rd w' rb (Av v.data.toList s) bad)∧Ab (fun q=> q=rb) w w':=by
 have HC:=Aa (Tryz.strings_CutPrefix (tx s) (v++⟨#[32]⟩) w)
 have e1:(v++⟨#[32]⟩:ByteArray).data.toList=v.data.toList++ [32]:=by simp [ByteArray.data_append]
 rw [An,e1,show Lib.hasPrefix s (v.data.toList++ [32])=Bw v.data.toList s from rfl,show(⟨(Lib.trimPrefix s (v.data.toList++ [32])).toArray⟩:ByteArray)=tx (Lib.trimPrefix s (v.data.toList++ [32])) from rfl] at HC
 have HA:Hid (Bw v.data.toList s=true→Lib.trimPrefix s (v.data.toList++ [32])=Av v.data.toList s):=fun hn=> by
  unfold Lib.trimPrefix Av
  rw [if_pos hn,if_pos (show Lib.hasPrefix s (v.data.toList++ [32])=true from hn)]
  simp
 have HB:Hid (Bw v.data.toList s=false→s=Av v.data.toList s):=fun hn=> by
  unfold Av
  rw [if_neg (by rw [hn];decide)]
 have HR:=Aa h
 have c0:=h.s
 have z0:=Bk.fz h 0
 have n1:¬ 9223372036854775807 < v.size+1:=by omega
 clear h e1
 generalize Lib.trimPrefix s (v.data.toList++ [32])=T at *
 obtain⟨nb,hnb⟩:∃ nb,Bw v.data.toList s=nb:=⟨_,rfl⟩
 rw [hnb] at HC HA HB ⊢
 clear hnb
 cases nb with
 | true=>
   have HT:=Aa (HA.out rfl)
   have HK:=Aa (Us (rb:=rb) (Below.refl w.heap.size w) 0 (.string (tx T)))
   clear HA HB
   go_enter Tryz.func137,Tryz.ntmps137
   go_wp2_with fail
   refine HC.out.mono ?_
   rintro e w1 ⟨rfl,rfl⟩
   go_wp2
   go_ret
   rw [←HT.out]
   exact⟨⟨rfl,HR.out.Hy T⟩,HK.out⟩
 | false=>
   have HT:=Aa (HB.out rfl)
   clear HA HB
   go_enter Tryz.func137,Tryz.ntmps137
   go_wp2_with fail
   refine HC.out.mono ?_
   rintro e w1 ⟨rfl,rfl⟩
   go_wp2
   go_ret
   rw [←HT.out]
   exact⟨⟨rfl,HR.out⟩,Ab.refl _ _⟩
set_option maxRecDepth 100000 in
set_option maxHeartbeats 1000000 in
theorem Jp (rb:Nat) (s:List UInt8) (bad:Bool) (w:World) (hg:GW w) (hgr:∀ w',Ab (fun q=> q=rb) w w'→GW w') (h:Rd w rb s bad) (hs:s.length≤100000):
 Calls Tryz.prog 102 #[.pointer (some ⟨rb,0,none⟩)] w fun e w'=> (e= .returned (.int .i64 (Cf (At s).1))∧Rd w' rb (At s).2 (bad || !Db (At s).1))∧Ab (fun q=> q=rb) w w':=by
 have HW:=Aa (Abn rb s bad w hg.gm h hs)
 have HWL:=Aa (Iu s)
 have HGR:=Aa hgr
 have HNO:Hid (Db (At s).1=(Mc (At s).1 && decide (Lib.itoa (Cf (At s).1)=(At s).1))):=Uh _
 clear hg hgr h
 generalize (At s).1=A at *
 generalize (At s).2=B at *
 go_enter Tryz.func102,Tryz.ntmps102
 go_wp2_with fail
 refine HW.out.mono ?_
 rintro e w1 ⟨⟨rfl,hr1⟩,k1⟩
 have HR1:=Aa hr1
 have HK1:=Aa k1
 have hA:=Aa (Tj (tx A) w1 (HGR.out _ k1) (by rw [Ak];have:=HWL.out.1;omega))
 rw [An] at hA
 clear hr1 k1 HW
 go_wp2_with fail
 refine hA.out.mono ?_
 rintro e w2 ⟨⟨ev,rfl,hev⟩,b2⟩
 have HR2:=Aa (HR1.out.later b2)
 have HK2:=Aa (HK1.out.trans (Ab.Ag b2 (Nat.le_refl _)))
 have d1:=HR2.out.bad
 have z1:=Bk.fz HR2.out 1
 have hbd:=Ug (l:=A)
 clear b2 hA
 cases bad with
 | true=>
   clear hev
   have HK:=Aa (HK2.out.setCell (p:=⟨rb,1,none⟩) rfl (.bool true))
   go_wp2
   go_ret
   exact⟨⟨rfl,HR2.out.E4 true⟩,HK.out⟩
 | false=>
   rcases hev with ⟨ho,rfl⟩ | ⟨ho,t,v,rfl⟩
   ·have HO:=Aa ho
    have HI:=Aa (F9 (Cf A) w2 (HGR.out _ HK2.out) hbd.1 hbd.2)
    clear ho
    generalize hvv:Cf A=v at *
    have HVV:=Aa hvv
    clear hvv
    go_wp2_with fail
    refine HI.out.mono ?_
    rintro e w3 ⟨rfl,b3⟩
    have HR3:=Aa (HR2.out.later b3)
    have HK3:=Aa (HK2.out.trans (Ab.Ag b3 (Nat.le_refl _)))
    clear d1 z1
    have d1:=HR3.out.bad
    have z1:=Bk.fz HR3.out 1
    have hbe:(!((tx (Lib.itoa v)).toList ==(tx A).toList))= !decide (Lib.itoa v=A):=by
     rw [tl,tl,An,An]
     by_cases he:Lib.itoa v=A
     ·rw [he];simp
     ·rw [decide_eq_false he,show(Lib.itoa v ==A)=false by rw [beq_eq_false_iff_ne];exact he]
    obtain⟨be,hbe2⟩:∃ be,decide (Lib.itoa v=A)=be:=⟨_,rfl⟩
    rw [hbe2] at hbe
    have HBE:=Aa hbe2
    have HNV:Hid (Db A=be):=by show _=_;rw [HNO.out,HO.out,HBE.out,Bool.true_and]
    have HK:=Aa (HK3.out.setCell (p:=⟨rb,1,none⟩) rfl (.bool !be))
    clear hbe2 b3 HI
    cases be with
    | true=>
      go_wp2
      go_ret
      rw [HNV.out,HVV.out]
      exact⟨⟨rfl,HR3.out.E4 false⟩,HK.out⟩
    | false=>
      go_wp2
      go_ret
      rw [HNV.out,HVV.out]
      exact⟨⟨rfl,HR3.out.E4 true⟩,HK.out⟩
   ·have HNV:Hid (Db A=false):=by show _=_;rw [HNO.out,ho,Bool.false_and]
    have HK:=Aa (HK2.out.setCell (p:=⟨rb,1,none⟩) rfl (.bool true))
    clear ho
    go_wp2
    go_ret
    rw [HNV.out]
    exact⟨⟨rfl,HR2.out.E4 true⟩,HK.out⟩
end Go.Proofs.YtbibeionenjmfaaGreatDoor
