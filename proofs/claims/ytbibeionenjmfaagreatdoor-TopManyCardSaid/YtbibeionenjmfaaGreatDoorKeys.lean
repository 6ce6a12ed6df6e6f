/- keys of pairs. -/
import Derived.Test.YtbibeionenjmfaaGreatDoorNumLaw
import Derived.Test.YtbibeionenjmfaaGreatDoorRefFold
set_option linter.unusedSimpArgs false
set_option linter.unusedVariables false
namespace Go.Proofs.YtbibeionenjmfaaGreatDoor
open Go.RowKit
def Ie (p:Pr):List UInt8:=Lib.itoa p.1.size++58::(p.1.data.toList++32::(Lib.itoa p.2++ [10]))
def Cl (l:List Pr):List UInt8:=l.flatMap Ie
def I8 (s:List UInt8):Option (List UInt8×List UInt8):=
 match Sf (cutAt 58 s).1 with
 | none=> none
 | some n=> if (cutAt 58 s).2.2=true∧0≤n∧n < (cutAt 58 s).2.1.length∧(cutAt 58 s).2.1[n.toNat]?=some 32 then some ((cutAt 58 s).2.1.take n.toNat,(cutAt 58 s).2.1.drop (n.toNat+1)) else none
def Y7 (r:List UInt8):Option (Int×List UInt8):=
 match Sf (cutAt 10 r).1 with
 | none=> none
 | some v=> if (cutAt 10 r).2.2=true then some (v,(cutAt 10 r).2.1) else none
def Jh (s:List UInt8):Option (Pr×List UInt8):=
 match I8 s with
 | none=> none
 | some (k,r)=> match Y7 r with
   | none=> none
   | some (v,m)=> some ((tx k,v),m)
theorem Kr (c:UInt8) (s:List UInt8):(cutAt c s).1.length+(cutAt c s).2.1.length≤s.length∧((cutAt c s).2.2=true→(cutAt c s).1.length+(cutAt c s).2.1.length+1=s.length):=by
 rcases F7 c s with h | ⟨A,B,rfl,h⟩
 ·rw [J7 h];simp
 ·rw [Fs h];simp;omega
theorem Ab4 {s k r:List UInt8} (h:I8 s=some (k,r)):k.length+r.length+1 < s.length:=by
 unfold I8 at h
 split at h
 ·cases h
 ·next n hn=>
  split at h
  ·next hc=>
   obtain⟨h1,h2,h3,_⟩:=hc
   injection h with h
   injection h with ha hb
   have:=(Kr 58 s).2 h1
   rw [←ha,←hb,List.length_take,List.length_drop]
   omega
  ·cases h
theorem Ahj {r m:List UInt8} {v:Int} (h:Y7 r=some (v,m)):m.length < r.length∧ -9223372036854775808≤v∧v≤9223372036854775807:=by
 unfold Y7 at h
 split at h
 ·cases h
 ·next u hu=>
  split at h
  ·next hc=>
   injection h with h
   injection h with ha hb
   have:=(Kr 10 r).2 hc
   have h3:=(Sn.1 hu).1
   rw [←hb,←ha]
   exact⟨by omega,h3⟩
  ·cases h
theorem Wk {s m:List UInt8} {p:Pr} (h:Jh s=some (p,m)):m.length+p.1.size+2 < s.length∧ -9223372036854775808≤p.2∧p.2≤9223372036854775807:=by
 unfold Jh at h
 split at h
 ·cases h
 ·next k r hk=>
  split at h
  ·cases h
  ·next v m' hv=>
   injection h with h
   injection h with ha hb
   have h1:=Ab4 hk
   have h2:=Ahj hv
   rw [←ha,←hb,Ak]
   exact⟨by omega,h2.2⟩
def Lm:Nat→List UInt8→Option (List Pr)
 | 0,s=> if s= [] then some [] else none
 | n+1,s=> if s= [] then some [] else match Jh s with
   | none=> none
   | some (p,m)=> (Lm n m).map (p::·)
theorem Rf:∀ (n m:Nat) (s:List UInt8),s.length≤n→s.length≤m→Lm n s=Lm m s
 | 0,0,s,_,_=> rfl
 | 0,m+1,s,h,_=> by
   obtain rfl:s= []:=List.length_eq_zero_iff.1 (by omega)
   simp [Lm]
 | n+1,0,s,_,h=> by
   obtain rfl:s= []:=List.length_eq_zero_iff.1 (by omega)
   simp [Lm]
 | n+1,m+1,s,h,h2=> by
   simp only [Lm]
   by_cases hs:s= []
   ·rw [if_pos hs,if_pos hs]
   ·rw [if_neg hs,if_neg hs]
    cases ho:Jh s with
    | none=> rfl
    | some pm=>
      obtain⟨p,r⟩:=pm
      have:=(Wk ho).1
      simp only
      rw [Rf n m r (by omega) (by omega)]
def Cj (s:List UInt8):Option (List Pr):=Lm s.length s
theorem Adu:Cj []=some []:=rfl
theorem Zk {s:List UInt8} (hs:s≠ []) (h:Jh s=none):Cj s=none:=by
 unfold Cj
 obtain⟨n,hn⟩:∃ n,s.length=n+1:=⟨s.length - 1,by have:=List.length_pos_iff.2 hs;omega⟩
 rw [hn]
 simp only [Lm]
 rw [if_neg hs,h]
theorem Rg {s m:List UInt8} {p:Pr} (h:Jh s=some (p,m)):Cj s=(Cj m).map (p::·):=by
 have h1:=(Wk h).1
 have hs:s≠ []:=fun e=> by rw [e] at h1;simp at h1
 unfold Cj
 obtain⟨n,hn⟩:∃ n,s.length=n+1:=⟨s.length - 1,by have:=List.length_pos_iff.2 hs;omega⟩
 rw [hn]
 simp only [Lm]
 rw [if_neg hs,h]
 simp only
 rw [Rf n m.length m (by omega) (Nat.le_refl _)]
theorem L4 {v:Int} {c:UInt8} (h45:c≠45) (hd:Wr c=false):c ∉ Lib.itoa v:=by
 intro hc
 unfold Lib.itoa at hc
 split at hc
 ·rcases List.mem_cons.1 hc with rfl | hc
  ·exact h45 rfl
  ·have:=(M5 v.natAbs).1 c hc
   rw [hd] at this;cases this
 ·have:=(M5 v.toNat).1 c hc
  rw [hd] at this;cases this
theorem Ag2 (p:Pr) (r:List UInt8) (hk:p.1.size≤9223372036854775807) (hv: -9223372036854775808≤p.2∧p.2≤9223372036854775807):Jh (Ie p++r)=some (p,r):=by
 obtain⟨k,v⟩:=p
 replace hk:k.size≤9223372036854775807:=hk
 replace hv: -9223372036854775808≤v∧v≤9223372036854775807:=hv
 have e1:Ie (k,v)++r=Lib.itoa k.size++58::(k.data.toList++32::(Lib.itoa v++10::r)):=by simp [Ie]
 have hks:k.data.toList.length=k.size:=Array.length_toList
 have hh:I8 (Ie (k,v)++r)=some (k.data.toList,Lib.itoa v++10::r):=by
  unfold I8
  rw [e1,Fs (L4 (by decide) (by decide)),Sn.2 ⟨⟨by omega,by omega⟩,rfl⟩]
  simp only
  have e2:k.data.toList++32::(Lib.itoa v++10::r)=(k.data.toList++ [32])++(Lib.itoa v++10::r):=by simp
  have e3:(k.data.toList++32::(Lib.itoa v++10::r))[((k.size:Nat):Int).toNat]?=some 32:=by
   rw [Int.toNat_natCast,List.getElem?_append_right (by omega),hks,Nat.sub_self];rfl
  have e4:((k.size:Nat):Int) < ((k.data.toList++32::(Lib.itoa v++10::r)).length:Int):=by
   rw [List.length_append,List.length_cons,hks];omega
  rw [if_pos ⟨trivial,by omega,e4,e3⟩,Int.toNat_natCast]
  congr 2
  ·rw [←hks,List.take_left]
  ·rw [e2,List.drop_left' (by simp [hks])]
 have hvv:Y7 (Lib.itoa v++10::r)=some (v,r):=by
  unfold Y7
  rw [Fs (L4 (by decide) (by decide)),Sn.2 ⟨hv,rfl⟩]
  rfl
 unfold Jh
 rw [hh]
 simp only
 rw [hvv]
 simp only
 rw [Pe]
theorem Uz:∀ (l:List Pr),(∀ p∈l,p.1.size≤9223372036854775807∧ -9223372036854775808≤p.2∧p.2≤9223372036854775807)→Cj (Cl l)=some l
 | [],_=> rfl
 | p::l,h=> by
   have hp:=h p (List.mem_cons_self ..)
   have e:Cl (p::l)=Ie p++Cl l:=rfl
   rw [e,Rg (Ag2 p (Cl l) hp.1 hp.2),Uz l fun x hx=> h x (List.mem_cons_of_mem _ hx)]
   rfl
end Go.Proofs.YtbibeionenjmfaaGreatDoor
namespace Go.Proofs.YtbibeionenjmfaaGreatDoor
open Go.RowKit
theorem Q8 {many:Nat} (hm:1≤many) (p:Pr) (n:Nat):Bf many n p=decide (n=(sliceB p.1 many).toNat):=by
 have h:=P4 p.1 many
 unfold Bf
 refine decide_eq_decide.2 ⟨fun e=> by omega,fun e=> by omega⟩
theorem Aj2 (fold:Int) (early:Bool) (many:Nat) (l:List Pr):(Ke fold early many l).length=many:=by unfold Ke;rw [List.length_map,List.length_range]
theorem Ajj {fold:Int} {early:Bool} {many n:Nat} {l s:List Pr} (h:n < many) (hs:(Ke fold early many l)[n]?=some s):Pt fold s=Pt fold (l.filter (Bf many n)):=by
 rw [Uw h] at hs
 cases hs
 split
 ·exact Amz _ _
 ·exact Tn (Md _)
theorem Wq {fold:Int} {early:Bool} {many n:Nat} (h:n < many):∀ (ls:List (List Pr)) (ss:List (List Pr)),ss.length=ls.length→(∀ (i:Nat) l s,ls[i]?=some l→ss[i]?=some s→(Ke fold early many l)[n]?=some s)→Pt fold ss.flatten=Pt fold (ls.flatten.filter (Bf many n))
 | [],ss,hl,_=> by
   obtain rfl:ss= []:=List.length_eq_zero_iff.1 hl
   rfl
 | l::ls,ss,hl,hh=> by
   rcases ss with _ | ⟨s,ss⟩
   ·simp at hl
   ·have ih:=Wq h ls ss (by simpa using hl) fun i a b ha hb=> hh (i+1) a b ha hb
    have h0:=Ajj h (hh 0 l s rfl rfl)
    rw [List.flatten_cons,List.flatten_cons,List.filter_append]
    rw [←Xc fold s,←Xc fold (l.filter _),h0,ih]
end Go.Proofs.YtbibeionenjmfaaGreatDoor
namespace Go.Proofs.YtbibeionenjmfaaGreatDoor
open Go.RowKit
def Ih (many:Nat) (S:List Pr):List (List Pr):=(List.range many).map fun n=> S.filter (Bf many n)
theorem M9 (many:Nat) (S:List Pr):(Ih many S).length=many:=by unfold Ih;rw [List.length_map,List.length_range]
theorem Afj (many:Nat):Ih many []=List.replicate many []:=by
 unfold Ih
 apply List.ext_getElem?
 intro i
 rw [List.getElem?_map,List.getElem?_replicate]
 by_cases h:i < many
 ·rw [List.getElem?_range h,if_pos h];rfl
 ·rw [List.getElem?_eq_none (by rw [List.length_range];omega),if_neg h];rfl
theorem Qx {many n:Nat} {S:List Pr} (h:n < many):(Ih many S)[n]?=some (S.filter (Bf many n)):=by
 unfold Ih
 rw [List.getElem?_map,List.getElem?_range h];rfl
theorem Acw {many:Nat} (hm:1≤many) (S:List Pr) (p:Pr):Ih many (S++ [p])=(Ih many S).set (sliceB p.1 many).toNat (S.filter (Bf many (sliceB p.1 many).toNat)++ [p]):=by
 apply List.ext_getElem?
 intro i
 by_cases h:i < many
 ·rw [Qx h,List.filter_append]
  by_cases e:i=(sliceB p.1 many).toNat
  ·subst e
   rw [List.getElem?_set_self (by rw [M9];exact h)]
   have:Bf many (sliceB p.1 many).toNat p=true:=by rw [Q8 hm];simp
   simp [this]
  ·rw [List.getElem?_set_ne (fun e2=> e e2.symm),Qx h]
   have:Bf many i p=false:=by rw [Q8 hm];simpa using e
   simp [this]
 ·rw [List.getElem?_eq_none (by rw [M9];omega),List.getElem?_eq_none (by rw [List.length_set,M9];omega)]
def Ia (kind:Int) (many:Nat) (S:List Pr) (j:Nat):List (List Pr):=(List.range many).map fun n=> if n < j then Ae kind (S.filter (Bf many n)) else S.filter (Bf many n)
theorem Y6 (kind:Int) (many:Nat) (S:List Pr):Ia kind many S 0=Ih many S:=by unfold Ia Ih;simp
theorem Le (kind:Int) (many:Nat) (S:List Pr) (j:Nat):(Ia kind many S j).length=many:=by unfold Ia;rw [List.length_map,List.length_range]
theorem Nz {kind:Int} {many n j:Nat} {S:List Pr} (h:n < many):(Ia kind many S j)[n]?=some (if n < j then Ae kind (S.filter (Bf many n)) else S.filter (Bf many n)):=by
 unfold Ia
 rw [List.getElem?_map,List.getElem?_range h];rfl
theorem Yt {kind:Int} {many j:Nat} {S:List Pr} (h:j < many):Ia kind many S (j+1)=(Ia kind many S j).set j (Ae kind (S.filter (Bf many j))):=by
 apply List.ext_getElem?
 intro i
 by_cases hi:i < many
 ·rw [Nz hi]
  by_cases e:i=j
  ·subst e
   rw [List.getElem?_set_self (by rw [Le];exact h),if_pos (by omega)]
  ·rw [List.getElem?_set_ne (fun e2=> e e2.symm),Nz hi]
   by_cases h2:i < j
   ·rw [if_pos h2,if_pos (by omega)]
   ·rw [if_neg h2,if_neg (by omega)]
 ·rw [List.getElem?_eq_none (by rw [Le];omega),List.getElem?_eq_none (by rw [List.length_set,Le];omega)]
theorem Ab3 {fold:Int} {many:Nat} (l:List Pr):Ke fold false many l=Ih many (Dq l):=by unfold Ke Ih;simp
theorem Af3 {fold:Int} {many:Nat} (l:List Pr):Ke fold true many l=Ia fold many (Dq l) many:=by
 unfold Ke Ia
 apply List.map_congr_left
 intro n hn
 rw [if_pos rfl,if_pos (List.mem_range.1 hn)]
end Go.Proofs.YtbibeionenjmfaaGreatDoor
namespace Go.Proofs.YtbibeionenjmfaaGreatDoor
open Go.RowKit
theorem Aks:(Tryz.prog.info? 9).map (fun i=> (i.zero,i.size,i.bytes))=some (some (.string ⟨#[]⟩),1,16):=by kernel_rfl
end Go.Proofs.YtbibeionenjmfaaGreatDoor
