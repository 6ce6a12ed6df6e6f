/- keys of pairs. -/
import Derived.Test.YtbibeionenjmfaaGreatDoorZNumLaw
import Derived.Test.YtbibeionenjmfaaGreatDoorZRefFold
import Derived.Test.YtbibeionenjmfaaGreatDoorZTexts
set_option linter.unusedSimpArgs false
set_option linter.unusedVariables false
namespace Go.Proofs.YtbibeionenjmfaaGreatDoor
open Go.RowKit
def Im (p:Pr):List UInt8:=Lib.itoa p.1.size++58::(p.1.data.toList++32::(Lib.itoa p.2++ [10]))
def Ct (l:List Pr):List UInt8:=l.flatMap Im
def Ja (s:List UInt8):Option (List UInt8×List UInt8):=
 match Sv (cutAt 58 s).1 with
 | none=> none
 | some n=> if (cutAt 58 s).2.2=true∧0≤n∧n < (cutAt 58 s).2.1.length∧(cutAt 58 s).2.1[n.toNat]?=some 32 then some ((cutAt 58 s).2.1.take n.toNat,(cutAt 58 s).2.1.drop (n.toNat+1)) else none
def Ab9 (r:List UInt8):Option (Int×List UInt8):=
 match Sv (cutAt 10 r).1 with
 | none=> none
 | some v=> if (cutAt 10 r).2.2=true then some (v,(cutAt 10 r).2.1) else none
def Jn (s:List UInt8):Option (Pr×List UInt8):=
 match Ja s with
 | none=> none
 | some (k,r)=> match Ab9 r with
   | none=> none
   | some (v,m)=> some ((tx k,v),m)
theorem Km (c:UInt8) (s:List UInt8):(cutAt c s).1.length+(cutAt c s).2.1.length≤s.length∧((cutAt c s).2.2=true→(cutAt c s).1.length+(cutAt c s).2.1.length+1=s.length):=by
 rcases Ge c s with h | ⟨A,B,rfl,h⟩
 ·rw [Kn h];simp
 ·rw [Fz h];simp;omega
theorem Adl {s k r:List UInt8} (h:Ja s=some (k,r)):k.length+r.length+1 < s.length:=by
 unfold Ja at h
 split at h
 ·cases h
 ·next n hn=>
  split at h
  ·next hc=>
   obtain⟨h1,h2,h3,_⟩:=hc
   injection h with h
   injection h with ha hb
   have:=(Km 58 s).2 h1
   rw [←ha,←hb,List.length_take,List.length_drop]
   omega
  ·cases h
theorem Aiu {r m:List UInt8} {v:Int} (h:Ab9 r=some (v,m)):m.length < r.length∧ -9223372036854775808≤v∧v≤9223372036854775807:=by
 unfold Ab9 at h
 split at h
 ·cases h
 ·next u hu=>
  split at h
  ·next hc=>
   injection h with h
   injection h with ha hb
   have:=(Km 10 r).2 hc
   have h3:=(S6.1 hu).1
   rw [←hb,←ha]
   exact⟨by omega,h3⟩
  ·cases h
theorem Xn {s m:List UInt8} {p:Pr} (h:Jn s=some (p,m)):m.length+p.1.size+2 < s.length∧ -9223372036854775808≤p.2∧p.2≤9223372036854775807:=by
 unfold Jn at h
 split at h
 ·cases h
 ·next k r hk=>
  split at h
  ·cases h
  ·next v m' hv=>
   injection h with h
   injection h with ha hb
   have h1:=Adl hk
   have h2:=Aiu hv
   rw [←ha,←hb,Am]
   exact⟨by omega,h2.2⟩
def Ls:Nat→List UInt8→Option (List Pr)
 | 0,s=> if s= [] then some [] else none
 | n+1,s=> if s= [] then some [] else match Jn s with
   | none=> none
   | some (p,m)=> (Ls n m).map (p::·)
theorem R4:∀ (n m:Nat) (s:List UInt8),s.length≤n→s.length≤m→Ls n s=Ls m s
 | 0,0,s,_,_=> rfl
 | 0,m+1,s,h,_=> by
   obtain rfl:s= []:=List.length_eq_zero_iff.1 (by omega)
   simp [Ls]
 | n+1,0,s,_,h=> by
   obtain rfl:s= []:=List.length_eq_zero_iff.1 (by omega)
   simp [Ls]
 | n+1,m+1,s,h,h2=> by
   simp only [Ls]
   by_cases hs:s= []
   ·rw [if_pos hs,if_pos hs]
   ·rw [if_neg hs,if_neg hs]
    cases ho:Jn s with
    | none=> rfl
    | some pm=>
      obtain⟨p,r⟩:=pm
      have:=(Xn ho).1
      simp only
      rw [R4 n m r (by omega) (by omega)]
def Co (s:List UInt8):Option (List Pr):=Ls s.length s
theorem Aeb:Co []=some []:=rfl
theorem Abq {s:List UInt8} (hs:s≠ []) (h:Jn s=none):Co s=none:=by
 unfold Co
 obtain⟨n,hn⟩:∃ n,s.length=n+1:=⟨s.length - 1,by have:=List.length_pos_iff.2 hs;omega⟩
 rw [hn]
 simp only [Ls]
 rw [if_neg hs,h]
theorem R5 {s m:List UInt8} {p:Pr} (h:Jn s=some (p,m)):Co s=(Co m).map (p::·):=by
 have h1:=(Xn h).1
 have hs:s≠ []:=fun e=> by rw [e] at h1;simp at h1
 unfold Co
 obtain⟨n,hn⟩:∃ n,s.length=n+1:=⟨s.length - 1,by have:=List.length_pos_iff.2 hs;omega⟩
 rw [hn]
 simp only [Ls]
 rw [if_neg hs,h]
 simp only
 rw [R4 n m.length m (by omega) (Nat.le_refl _)]
theorem Mn {v:Int} {c:UInt8} (h45:c≠45) (hd:W0 c=false):c ∉ Lib.itoa v:=by
 intro hc
 unfold Lib.itoa at hc
 split at hc
 ·rcases List.mem_cons.1 hc with rfl | hc
  ·exact h45 rfl
  ·have:=(Nh v.natAbs).1 c hc
   rw [hd] at this;cases this
 ·have:=(Nh v.toNat).1 c hc
  rw [hd] at this;cases this
theorem Ah6 (p:Pr) (r:List UInt8) (hk:p.1.size≤9223372036854775807) (hv: -9223372036854775808≤p.2∧p.2≤9223372036854775807):Jn (Im p++r)=some (p,r):=by
 obtain⟨k,v⟩:=p
 replace hk:k.size≤9223372036854775807:=hk
 replace hv: -9223372036854775808≤v∧v≤9223372036854775807:=hv
 have e1:Im (k,v)++r=Lib.itoa k.size++58::(k.data.toList++32::(Lib.itoa v++10::r)):=by simp [Im]
 have hks:k.data.toList.length=k.size:=Array.length_toList
 have hh:Ja (Im (k,v)++r)=some (k.data.toList,Lib.itoa v++10::r):=by
  unfold Ja
  rw [e1,Fz (Mn (by decide) (by decide)),S6.2 ⟨⟨by omega,by omega⟩,rfl⟩]
  simp only
  have e2:k.data.toList++32::(Lib.itoa v++10::r)=(k.data.toList++ [32])++(Lib.itoa v++10::r):=by simp
  have e3:(k.data.toList++32::(Lib.itoa v++10::r))[((k.size:Nat):Int).toNat]?=some 32:=by
   rw [Int.toNat_natCast,List.getElem?_append_right (by omega),hks,Nat.sub_self];rfl
  have e4:((k.size:Nat):Int) < ((k.data.toList++32::(Lib.itoa v++10::r)).length:Int):=by
   rw [List.length_append,List.length_cons,hks];omega
  rw [if_pos ⟨trivial,by omega,e4,e3⟩,Int.toNat_natCast]
  congr 2
  ·rw [←hks,List.take_left]
  ·rw [e2,List.drop_left' (by simp [hks])]
 have hvv:Ab9 (Lib.itoa v++10::r)=some (v,r):=by
  unfold Ab9
  rw [Fz (Mn (by decide) (by decide)),S6.2 ⟨hv,rfl⟩]
  rfl
 unfold Jn
 rw [hh]
 simp only
 rw [hvv]
 simp only
 rw [P2]
theorem Uz:∀ (l:List Pr),(∀ p∈l,p.1.size≤9223372036854775807∧ -9223372036854775808≤p.2∧p.2≤9223372036854775807)→Co (Ct l)=some l
 | [],_=> rfl
 | p::l,h=> by
   have hp:=h p (List.mem_cons_self ..)
   have e:Ct (p::l)=Im p++Ct l:=rfl
   rw [e,R5 (Ah6 p (Ct l) hp.1 hp.2),Uz l fun x hx=> h x (List.mem_cons_of_mem _ hx)]
   rfl
end Go.Proofs.YtbibeionenjmfaaGreatDoor
namespace Go.Proofs.YtbibeionenjmfaaGreatDoor
open Go.RowKit
theorem Rp {many:Nat} (hm:1≤many) (p:Pr) (n:Nat):Bh many n p=decide (n=(sliceB p.1 many).toNat):=by
 have h:=Q6 p.1 many
 unfold Bh
 refine decide_eq_decide.2 ⟨fun e=> by omega,fun e=> by omega⟩
theorem Ajy (fold:Int) (early:Bool) (many:Nat) (l:List Pr):(Ko fold early many l).length=many:=by unfold Ko;rw [List.length_map,List.length_range]
theorem Ajx {fold:Int} {early:Bool} {many n:Nat} {l s:List Pr} (h:n < many) (hs:(Ko fold early many l)[n]?=some s):P7 fold s=P7 fold (l.filter (Bh many n)):=by
 rw [Tt h] at hs
 cases hs
 split
 ·exact Aml _ _
 ·exact T7 (M1 _)
theorem Xo {fold:Int} {early:Bool} {many n:Nat} (h:n < many):∀ (ls:List (List Pr)) (ss:List (List Pr)),ss.length=ls.length→(∀ (i:Nat) l s,ls[i]?=some l→ss[i]?=some s→(Ko fold early many l)[n]?=some s)→P7 fold ss.flatten=P7 fold (ls.flatten.filter (Bh many n))
 | [],ss,hl,_=> by
   obtain rfl:ss= []:=List.length_eq_zero_iff.1 hl
   rfl
 | l::ls,ss,hl,hh=> by
   rcases ss with _ | ⟨s,ss⟩
   ·simp at hl
   ·have ih:=Xo h ls ss (by simpa using hl) fun i a b ha hb=> hh (i+1) a b ha hb
    have h0:=Ajx h (hh 0 l s rfl rfl)
    rw [List.flatten_cons,List.flatten_cons,List.filter_append]
    rw [←Wv fold s,←Wv fold (l.filter _),h0,ih]
end Go.Proofs.YtbibeionenjmfaaGreatDoor
namespace Go.Proofs.YtbibeionenjmfaaGreatDoor
open Go.RowKit
def Il (many:Nat) (S:List Pr):List (List Pr):=(List.range many).map fun n=> S.filter (Bh many n)
theorem Ng (many:Nat) (S:List Pr):(Il many S).length=many:=by unfold Il;rw [List.length_map,List.length_range]
theorem Ahb (many:Nat):Il many []=List.replicate many []:=by
 unfold Il
 apply List.ext_getElem?
 intro i
 rw [List.getElem?_map,List.getElem?_replicate]
 by_cases h:i < many
 ·rw [List.getElem?_range h,if_pos h];rfl
 ·rw [List.getElem?_eq_none (by rw [List.length_range];omega),if_neg h];rfl
theorem Qk {many n:Nat} {S:List Pr} (h:n < many):(Il many S)[n]?=some (S.filter (Bh many n)):=by
 unfold Il
 rw [List.getElem?_map,List.getElem?_range h];rfl
theorem Ada {many:Nat} (hm:1≤many) (S:List Pr) (p:Pr):Il many (S++ [p])=(Il many S).set (sliceB p.1 many).toNat (S.filter (Bh many (sliceB p.1 many).toNat)++ [p]):=by
 apply List.ext_getElem?
 intro i
 by_cases h:i < many
 ·rw [Qk h,List.filter_append]
  by_cases e:i=(sliceB p.1 many).toNat
  ·subst e
   rw [List.getElem?_set_self (by rw [Ng];exact h)]
   have:Bh many (sliceB p.1 many).toNat p=true:=by rw [Rp hm];simp
   simp [this]
  ·rw [List.getElem?_set_ne (fun e2=> e e2.symm),Qk h]
   have:Bh many i p=false:=by rw [Rp hm];simpa using e
   simp [this]
 ·rw [List.getElem?_eq_none (by rw [Ng];omega),List.getElem?_eq_none (by rw [List.length_set,Ng];omega)]
def Ih (kind:Int) (many:Nat) (S:List Pr) (j:Nat):List (List Pr):=(List.range many).map fun n=> if n < j then Ae kind (S.filter (Bh many n)) else S.filter (Bh many n)
theorem Aan (kind:Int) (many:Nat) (S:List Pr):Ih kind many S 0=Il many S:=by unfold Ih Il;simp
theorem Lm (kind:Int) (many:Nat) (S:List Pr) (j:Nat):(Ih kind many S j).length=many:=by unfold Ih;rw [List.length_map,List.length_range]
theorem Oh {kind:Int} {many n j:Nat} {S:List Pr} (h:n < many):(Ih kind many S j)[n]?=some (if n < j then Ae kind (S.filter (Bh many n)) else S.filter (Bh many n)):=by
 unfold Ih
 rw [List.getElem?_map,List.getElem?_range h];rfl
theorem Aam {kind:Int} {many j:Nat} {S:List Pr} (h:j < many):Ih kind many S (j+1)=(Ih kind many S j).set j (Ae kind (S.filter (Bh many j))):=by
 apply List.ext_getElem?
 intro i
 by_cases hi:i < many
 ·rw [Oh hi]
  by_cases e:i=j
  ·subst e
   rw [List.getElem?_set_self (by rw [Lm];exact h),if_pos (by omega)]
  ·rw [List.getElem?_set_ne (fun e2=> e e2.symm),Oh hi]
   by_cases h2:i < j
   ·rw [if_pos h2,if_pos (by omega)]
   ·rw [if_neg h2,if_neg (by omega)]
 ·rw [List.getElem?_eq_none (by rw [Lm];omega),List.getElem?_eq_none (by rw [List.length_set,Lm];omega)]
theorem Ac8 {fold:Int} {many:Nat} (l:List Pr):Ko fold false many l=Il many (Dz l):=by unfold Ko Il;simp
theorem Ag9 {fold:Int} {many:Nat} (l:List Pr):Ko fold true many l=Ih fold many (Dz l) many:=by
 unfold Ko Ih
 apply List.map_congr_left
 intro n hn
 rw [if_pos rfl,if_pos (List.mem_range.1 hn)]
end Go.Proofs.YtbibeionenjmfaaGreatDoor
namespace Go.Proofs.YtbibeionenjmfaaGreatDoor
open Go.RowKit
theorem Aka:(Tryz.prog.info? 9).map (fun i=> (i.zero,i.size,i.bytes))=some (some (.string ⟨#[]⟩),1,16):=by kernel_rfl
end Go.Proofs.YtbibeionenjmfaaGreatDoor
