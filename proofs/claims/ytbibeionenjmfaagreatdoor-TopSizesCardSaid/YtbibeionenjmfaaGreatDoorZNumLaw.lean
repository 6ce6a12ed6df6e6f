/- Numbers and their decimal numerals: what strconv's two functions say together, and the document's reading (no program). -/
import Derived.Lib.ItoaMem
import Derived.Lib.AtoiAllCases
import GoSem.Op.String
set_option linter.unusedSimpArgs false
set_option linter.unusedVariables false
namespace Go.Proofs.YtbibeionenjmfaaGreatDoor
open Go.Lib
def W0 (c:UInt8):Bool:=decide (48≤c.toNat) && decide (c.toNat≤57)
theorem Ho {c:UInt8}:W0 c=true↔48≤c.toNat∧c.toNat≤57:=by unfold W0;simp
def Kp:Nat→List UInt8→Nat
 | acc, []=> acc
 | acc,c::r=> Kp (10 * acc+(c.toNat - 48)) r
theorem I5 (acc:Nat):Kp acc []=acc:=by unfold Kp;rfl
theorem F4 (acc:Nat) (c:UInt8) (r:List UInt8):Kp acc (c::r)=Kp (10 * acc+(c.toNat - 48)) r:=by conv=> lhs;unfold Kp
theorem Wo (l:List UInt8):∀ (acc:Nat) (c:UInt8),Kp acc (l++ [c])=10 * Kp acc l+(c.toNat - 48):=by
 induction l with
 | nil=> intro acc c;rw [List.nil_append,F4,I5,I5]
 | cons d l ih=> intro acc c;rw [List.cons_append,F4,F4];exact ih _ c
theorem Wn (l:List UInt8):∀ (acc:Nat),acc≤Kp acc l:=by
 induction l with
 | nil=> intro acc;rw [I5];exact Nat.le_refl _
 | cons c l ih=> intro acc;rw [F4];have:=ih (10 * acc+(c.toNat - 48));omega
theorem Amh (l:List UInt8):∀ (acc:Nat),acc * 10 ^ l.length≤Kp acc l:=by
 induction l with
 | nil=> intro acc;rw [I5];simp
 | cons y r ih=>
   intro acc
   rw [F4,List.length_cons]
   refine Nat.le_trans ?_ (ih _)
   rw [Nat.pow_succ,Nat.mul_comm (10 ^ _) 10,←Nat.mul_assoc]
   exact Nat.mul_le_mul_right _ (by omega)
theorem Abr (l:List UInt8):∀ (acc:Nat),(∀ c∈l,W0 c=true)→Kp acc l < 18446744073709551616→parseUint10 acc l= .ok (Kp acc l):=by
 induction l with
 | nil=> intro acc _ _;rw [I5];simp only [parseUint10]
 | cons c l ih=>
   intro acc h hv
   have h1:=Ho.1 (h c (List.mem_cons_self ..))
   have h2:=Wn l (10 * acc+(c.toNat - 48))
   rw [F4] at hv ⊢
   simp only [parseUint10]
   rw [if_pos h1,if_neg (by omega),if_neg (by omega),Nat.mul_comm acc 10]
   exact ih _ (fun x hx=> h x (List.mem_cons_of_mem _ hx)) hv
theorem Aez {n:Nat} (h:n < 256):(UInt8.ofNat n).toNat=n:=by simp [UInt8.toNat_ofNat'];omega
structure S3 (l:List UInt8):Prop where
 ne:l≠ []
 dig:∀ c∈l,W0 c=true
 lead:l.head?=some 48→l.length=1
theorem Nh (u:Nat):(∀ c∈decDigits u,W0 c=true)∧Kp 0 (decDigits u)=u∧decDigits u≠ []∧((decDigits u).head?=some 48→u=0):=by
 induction u using Nat.strongRecOn with
 | _ u ih=>
   by_cases h:u < 10
   ·rw [decDigits,dif_pos h]
    have e:(UInt8.ofNat (48+u)).toNat=48+u:=Aez (by omega)
    refine⟨fun c hc=> ?_,?_,by simp,fun h2=> ?_⟩
    ·obtain rfl:c=UInt8.ofNat (48+u):=by simpa using hc
     rw [Ho,e];omega
    ·rw [F4,I5,e];omega
    ·have h3:UInt8.ofNat (48+u)=48:=by simpa using h2
     rw [h3] at e
     have:(48:UInt8).toNat=48:=rfl
     omega
   ·obtain⟨a,b,c,d⟩:=ih (u / 10) (by omega)
    rw [decDigits,dif_neg h]
    have e:(UInt8.ofNat (48+u % 10)).toNat=48+u % 10:=Aez (by omega)
    refine⟨fun x hx=> ?_,?_,by simp,fun h2=> ?_⟩
    ·rcases List.mem_append.1 hx with hx | hx
     ·exact a x hx
     ·obtain rfl:x=UInt8.ofNat (48+u % 10):=by simpa using hx
      rw [Ho,e];omega
    ·rw [Wo,b,e];omega
    ·obtain⟨y,q,hy⟩:∃ y q,decDigits (u / 10)=y::q:=List.exists_cons_of_ne_nil c
     rw [hy] at h2 d
     have:=d (by simpa using h2)
     omega
theorem Aac (u:Nat):S3 (decDigits u):=by
 obtain⟨a,b,c,d⟩:=Nh u
 refine⟨c,a,fun h=> ?_⟩
 rw [d h,decDigits_one (by decide)];rfl
theorem Aot:∀ (n:Nat) (l:List UInt8),l.length=n→S3 l→decDigits (Kp 0 l)=l:=by
 intro n
 induction n with
 | zero=> intro l hl h;exact(h.ne (List.length_eq_zero_iff.1 hl)).elim
 | succ n ih=>
   intro l hl h
   have hne:l≠ []:=h.ne
   obtain⟨p,c,rfl⟩:∃ p c,l=p++ [c]:=⟨l.dropLast,l.getLast hne,(List.dropLast_concat_getLast hne).symm⟩
   have hc:=Ho.1 (h.dig c (by simp))
   rw [Wo]
   cases p with
   | nil=>
     rw [I5,List.nil_append,decDigits_one (by omega),show 48+(10 * 0+(c.toNat - 48))=c.toNat by omega]
     simp
   | cons d q=>
     have hd:=Ho.1 (h.dig d (by simp))
     have h48:d≠48:=fun e=> by
      have:=h.lead (by simp [e])
      simp at this
     have hd2:49≤d.toNat:=by
      rcases Nat.lt_or_ge 48 d.toNat with h1 | h1
      ·exact h1
      ·exact(h48 (UInt8.toNat_inj.1 (show d.toNat=48 by omega))).elim
     have hn:S3 (d::q):=⟨by simp,fun x hx=> h.dig x (by simp only [List.mem_append];exact .inl hx),fun e=> by simp at e;exact(h48 e).elim⟩
     have hih:=ih (d::q) (by simp at hl ⊢;omega) hn
     have hv:1≤Kp 0 (d::q):=by
      have:=Wn q (10 * 0+(d.toNat - 48))
      rw [F4];omega
     rw [decDigits,dif_neg (by omega),show(10 * Kp 0 (d::q)+(c.toNat - 48)) / 10=Kp 0 (d::q) by omega,hih,
      show 48+(10 * Kp 0 (d::q)+(c.toNat - 48)) % 10=c.toNat by omega]
     simp
def Sv (s:List UInt8):Option Int:=match atoiAll s with | .ok v=> if itoa v=s then some v else none | _=> none
theorem Wl {v:Int} (h0: -9223372036854775808≤v) (h1:v≤9223372036854775807):atoiAll (itoa v)= .ok v:=by
 by_cases hv:v < 0
 ·obtain⟨u,rfl⟩:∃ u:Nat,v= -(u:Int):=⟨v.natAbs,by omega⟩
  rw [itoa_neg u (by omega),atoiAll_minus]
  obtain⟨a,b,c,d⟩:=Nh u
  unfold parseMag
  rw [if_neg c,Abr _ _ a (by omega),b]
  unfold signed
  simp only
  rw [if_neg (by omega)]
 ·obtain⟨u,rfl⟩:∃ u:Nat,v=(u:Int):=⟨v.toNat,by omega⟩
  rw [itoa_nonneg]
  obtain⟨a,b,c,d⟩:=Nh u
  obtain⟨x,r,hx⟩:∃ x r,decDigits u=x::r:=List.exists_cons_of_ne_nil c
  have h2:=Ho.1 (a x (by rw [hx];exact List.mem_cons_self ..))
  rw [hx,atoiAll_plain x r (by omega) (by omega),←hx]
  unfold parseMag
  rw [if_neg c,Abr _ _ a (by omega),b]
  unfold signless
  simp only
  rw [if_neg (by omega)]
theorem S6 {s:List UInt8} {v:Int}:Sv s=some v↔(-9223372036854775808≤v∧v≤9223372036854775807)∧s=itoa v:=by
 constructor
 ·intro h
  unfold Sv at h
  split at h
  ·next u hu=>
   split at h
   ·next e=> injection h with h;subst h;exact⟨atoiAll_bounds hu,e.symm⟩
   ·cases h
  ·cases h
 ·rintro⟨⟨h0,h1⟩,rfl⟩
  unfold Sv
  rw [Wl h0 h1]
  simp
def Akw:List UInt8:= [45,57,50,50,51,51,55,50,48,51,54,56,53,52,55,55,53,56,48,56]
theorem Akb:itoa (-9223372036854775808)=Akw:=by
 have h:Akw=45:: [57,50,50,51,51,55,50,48,51,54,56,53,52,55,55,53,56,48,56]:=rfl
 have e:=Aot 19 [57,50,50,51,51,55,50,48,51,54,56,53,52,55,55,53,56,48,56] rfl ⟨by simp,by decide,by decide⟩
 rw [show Kp 0 [57,50,50,51,51,55,50,48,51,54,56,53,52,55,55,53,56,48,56]=9223372036854775808 by decide+kernel] at e
 rw [h,←e]
 exact itoa_neg 9223372036854775808 (by decide)
theorem Lk {u:Nat} (h:u≤9223372036854775808):(decDigits u).length≤19:=by
 rw [decDigits_length]
 by_cases h1:nDigits u≤19
 ·exact h1
 ·exfalso
  obtain⟨a,b,c,d⟩:=Nh u
  have hl:=decDigits_length u
  have hlow:∀ (l:List UInt8),S3 l→2≤l.length→10 ^ (l.length - 1)≤Kp 0 l:=by
   intro l hn h2
   obtain⟨x,r,rfl⟩:∃ x r,l=x::r:=List.exists_cons_of_ne_nil hn.ne
   have hx:=Ho.1 (hn.dig x (List.mem_cons_self ..))
   have hx2:x≠48:=fun e=> by have:=hn.lead (by simp [e]);omega
   have hx3:49≤x.toNat:=by
    rcases Nat.lt_or_ge 48 x.toNat with h3 | h3
    ·exact h3
    ·exact(hx2 (UInt8.toNat_inj.1 (show x.toNat=48 by omega))).elim
   have:=Amh r (10 * 0+(x.toNat - 48))
   rw [F4,List.length_cons,Nat.add_sub_cancel]
   refine Nat.le_trans ?_ this
   calc 10 ^ r.length=1 * 10 ^ r.length:=(Nat.one_mul _).symm
    _≤_:=Nat.mul_le_mul_right _ (by omega)
  have:=hlow _ (Aac u) (by omega)
  rw [b,hl] at this
  have h3:10 ^ 19≤10 ^ (nDigits u - 1):=Nat.pow_le_pow_right (by decide) (by omega)
  omega
theorem C4 {v:Int} (h0: -9223372036854775808≤v) (h1:v≤9223372036854775807):(itoa v).length≤20:=by
 by_cases hv:v < 0
 ·obtain⟨u,rfl⟩:∃ u:Nat,v= -(u:Int):=⟨v.natAbs,by omega⟩
  have:=Lk (u:=u) (by omega)
  rw [itoa_neg u (by omega),List.length_cons];omega
 ·obtain⟨u,rfl⟩:∃ u:Nat,v=(u:Int):=⟨v.toNat,by omega⟩
  have:=Lk (u:=u) (by omega)
  rw [itoa_nonneg];omega
end Go.Proofs.YtbibeionenjmfaaGreatDoor
