/- Package pair: Sum and Slice: what each returns. -/
import Derived.Test.YtbibeionenjmfaaGreatDoorRows
import Derived.Test.YtbibeionenjmfaaGreatDoorSortLaw
set_option linter.unusedSimpArgs false
set_option linter.unusedVariables false
namespace Go.Proofs.YtbibeionenjmfaaGreatDoor
open Go.RowKit
def Ed (n:Int):Value:=if n=0 then .nilIface else .iface 91 (.int .i64 n)
theorem A2:Ed 0= .nilIface:=rfl
theorem A0 {n:Int} (h:n≠0):Ed n= .iface 91 (.int .i64 n):=if_neg h
end Go.Proofs.YtbibeionenjmfaaGreatDoor
namespace Go.Proofs.YtbibeionenjmfaaGreatDoor
open Go.RowKit
theorem Amt {A B:List Pr} {x:Pr} (ha:∀ y∈A,Co x y=true) (hb:∀ y∈B,Co y x=false):Dq (A++x::B)=x::Dq (A++B):=by
 symm
 refine Qb ?_ ?_
 ·refine List.pairwise_cons.2 ⟨fun y hy=> ?_,Fk _⟩
  rcases List.mem_append.1 (Pd.1 hy) with h | h
  ·exact He (ha y h)
  ·exact hb y h
 ·have h1:B4 (x::Dq (A++B)) (x::(A++B)):=B4.append (a:= [x]) (b:= [x]) (B4.refl _) (Ko _)
  refine h1.trans fun k=> ?_
  by_cases hk:Rz k x=true
  ·have hn:A.filter (Rz k)= []:=by
    rw [List.filter_eq_nil_iff]
    intro y hy e
    have h2:=Ya (ha y hy)
    unfold Rz at hk e
    rw [beq_iff_eq] at hk e
    exact h2 (hk.trans e.symm)
   rw [List.filter_cons_of_pos hk,List.filter_append,List.filter_append,List.filter_cons_of_pos hk,hn];rfl
  ·rw [List.filter_cons_of_neg hk,List.filter_append,List.filter_append,List.filter_cons_of_neg hk]
def Hn (R:List (List Pr)) (k:Nat) (b:Int):Prop:=
 (b= -1∧∀ j l,j < k→R[j]?=some l→l= [])∨∃ m x t,b=((m:Nat):Int)∧m < k∧R[m]?=some (x::t)∧(∀ j y t',j < m→R[j]?=some (y::t')→Co x y=true)∧∀ j y t',m < j→j < k→R[j]?=some (y::t')→Co y x=false
theorem Hn.zero (R:List (List Pr)):Hn R 0 (-1):= .inl ⟨rfl,fun j l h=> by omega⟩
theorem Hn.range {R:List (List Pr)} {k:Nat} {b:Int} (h:Hn R k b): -1≤b∧b < (k:Int):=by
 rcases h with ⟨h,_⟩ | ⟨m,x,t,h,h2,_⟩ <;> omega
theorem Hn.skip {R:List (List Pr)} {k:Nat} {b:Int} (h:Hn R k b) (hk:R[k]?=some []):Hn R (k+1) b:=by
 rcases h with ⟨h,h1⟩ | ⟨m,x,t,h,h2,h3,h4,h5⟩
 ·refine .inl ⟨h,fun j l hj hl=> ?_⟩
  by_cases e:j=k
  ·subst e;rw [hk] at hl;cases hl;rfl
  ·exact h1 j l (by omega) hl
 ·refine .inr ⟨m,x,t,h,by omega,h3,h4,fun j y t' hm hj hl=> ?_⟩
  by_cases e:j=k
  ·subst e;rw [hk] at hl;cases hl
  ·exact h5 j y t' hm (by omega) hl
theorem Hn.first {R:List (List Pr)} {k:Nat} {x:Pr} {t:List Pr} (h:Hn R k (-1)) (hk:R[k]?=some (x::t)):Hn R (k+1) k:=by
 rcases h with ⟨h,h1⟩ | ⟨m,x,t,h,h2,h3,h4,h5⟩
 ·refine .inr ⟨k,x,t,rfl,by omega,hk,fun j y t' hj hl=> ?_,fun j y t' hm hj hl=> by omega⟩
  cases h1 j _ hj hl
 ·omega
theorem Hn.better {R:List (List Pr)} {k m:Nat} {x y:Pr} {t t':List Pr} (h:Hn R k m) (hm:R[m]?=some (x::t)) (hk:R[k]?=some (y::t')) (hy:Co y x=true):Hn R (k+1) k:=by
 rcases h with ⟨h,h1⟩ | ⟨m',x',t1,h,h2,h3,h4,h5⟩
 ·omega
 ·obtain rfl:m=m':=by omega
  rw [hm] at h3;cases h3
  refine .inr ⟨k,y,t',rfl,by omega,hk,fun j z t2 hj hl=> ?_,fun j y t' hm hj hl=> by omega⟩
  by_cases e:j=m
  ·subst e;rw [hm] at hl;cases hl;exact hy
  ·by_cases e2:j < m
   ·exact Gn hy (h4 j z t2 e2 hl)
   ·exact So hy (h5 j z t2 (by omega) hj hl)
theorem Hn.Acp {R:List (List Pr)} {k m:Nat} {x y:Pr} {t t':List Pr} (h:Hn R k m) (hm:R[m]?=some (x::t)) (hk:R[k]?=some (y::t')) (hy:Co y x=false):Hn R (k+1) m:=by
 rcases h with ⟨h,h1⟩ | ⟨m',x',t1,h,h2,h3,h4,h5⟩
 ·omega
 ·obtain rfl:m=m':=by omega
  rw [hm] at h3;cases h3
  refine .inr ⟨m,x,t,rfl,by omega,hm,h4,fun j z t2 hj hl he=> ?_⟩
  by_cases e:j=k
  ·subst e;rw [hk] at he;cases he;exact hy
  ·exact h5 j z t2 hj (by omega) he
theorem Hn.no {R:List (List Pr)} (h:Hn R R.length (-1)):R.flatten= []:=by
 rcases h with ⟨h,h1⟩ | ⟨m,x,t,h,_⟩
 ·rw [List.flatten_eq_nil_iff]
  intro l hl
  obtain⟨j,hj⟩:=List.getElem?_of_mem hl
  exact h1 j l (List.getElem?_eq_some_iff.1 hj).1 hj
 ·omega
theorem Rk {R:List (List Pr)} {m:Nat} {l:List Pr} (h:R[m]?=some l) (l':List Pr):R.flatten=(R.take m).flatten++(l++(R.drop (m+1)).flatten)∧(R.set m l').flatten=(R.take m).flatten++(l'++(R.drop (m+1)).flatten):=by
 obtain⟨hlt,hx⟩:=List.getElem?_eq_some_iff.1 h
 constructor
 ·conv=> lhs;rw [←List.take_append_drop m R,List.drop_eq_getElem_cons hlt,hx]
  rw [List.flatten_append,List.flatten_cons]
 ·rw [List.set_eq_take_append_cons_drop,if_pos hlt,List.flatten_append,List.flatten_cons]
theorem Hn.yes {R:List (List Pr)} {m:Nat} (h:Hn R R.length m) (hr:∀ l∈R,Bh l):∃ x t,R[m]?=some (x::t)∧Dq R.flatten=x::Dq (R.set m t).flatten:=by
 rcases h with ⟨h,h1⟩ | ⟨m',x,t,h,h2,h3,h4,h5⟩
 ·omega
 ·obtain rfl:m=m':=by omega
  refine⟨x,t,h3,?_⟩
  obtain⟨e1,e2⟩:=Rk h3 t
  rw [e1,e2]
  have hx:=hr _ (List.mem_of_getElem? h3)
  have hxt:=(List.pairwise_cons.1 hx).1
  refine Amt (fun y hy=> ?_) (fun y hy=> ?_)
  ·obtain⟨l,hl,hyl⟩:=List.mem_flatten.1 hy
   obtain⟨j,hj⟩:=List.getElem?_of_mem hl
   have hjm:j < m:=by have:=(List.getElem?_eq_some_iff.1 hj).1;rw [List.length_take] at this;omega
   rw [List.getElem?_take_of_lt hjm] at hj
   match l,hj,hyl with
   | z::t2,hj,hyl=>
     have hz:=h4 j z t2 hjm hj
     rcases List.mem_cons.1 hyl with e | e
     ·rw [e];exact hz
     ·exact So hz ((List.pairwise_cons.1 (hr _ (List.mem_of_getElem? hj))).1 y e)
  ·rcases List.mem_append.1 hy with h | hy
   ·exact hxt y h
   ·obtain⟨l,hl,hyl⟩:=List.mem_flatten.1 hy
    obtain⟨j,hj⟩:=List.getElem?_of_mem hl
    rw [List.getElem?_drop] at hj
    have hlt:=(List.getElem?_eq_some_iff.1 hj).1
    match l,hj,hyl with
    | z::t2,hj,hyl=>
      have hz:=h5 (m+1+j) z t2 (by omega) hlt hj
      rcases List.mem_cons.1 hyl with e | e
      ·rw [e];exact hz
      ·exact Gq hz ((List.pairwise_cons.1 (hr _ (List.mem_of_getElem? hj))).1 y e)
theorem Hn.head {R:List (List Pr)} {k m:Nat} (h:Hn R k m):∃ x t,R[m]?=some (x::t):=by
 rcases h with ⟨h,h1⟩ | ⟨m',x,t,h,h2,h3,h4,h5⟩
 ·omega
 ·obtain rfl:m=m':=by omega
  exact⟨x,t,h3⟩
def left (A:List Nat) (L:List (List Pr)):List (List Pr):=List.zipWith (fun a l=> l.drop a) A L
theorem Z4 {A:List Nat} {L:List (List Pr)} (h:A.length=L.length):(left A L).length=L.length:=by unfold left;rw [List.length_zipWith];omega
theorem Ks {A:List Nat} {L:List (List Pr)} {i a:Nat} {l:List Pr} (ha:A[i]?=some a) (hl:L[i]?=some l):(left A L)[i]?=some (l.drop a):=by
 unfold left;rw [List.getElem?_zipWith,ha,hl]
theorem left_at {A:List Nat} {L:List (List Pr)} {i a:Nat} {l:List Pr} {p:Pr} (ha:A[i]?=some a) (hl:L[i]?=some l) (hp:l[a]?=some p):(left A L)[i]?=some (p::l.drop (a+1)):=by
 rw [Ks ha hl]
 obtain⟨hlt,hx⟩:=List.getElem?_eq_some_iff.1 hp
 rw [List.drop_eq_getElem_cons hlt,hx]
theorem Aib {A:List Nat} {L:List (List Pr)} {i a:Nat} {l:List Pr} (ha:A[i]?=some a) (hl:L[i]?=some l) (hp:l.length≤a):(left A L)[i]?=some []:=by
 rw [Ks ha hl,List.drop_eq_nil_of_le hp]
theorem Aj7 {A:List Nat} {L:List (List Pr)} {i a:Nat} {l t:List Pr} {p:Pr} (ha:A[i]?=some a) (hl:L[i]?=some l) (hp:(left A L)[i]?=some (p::t)):left (A.set i (a+1)) L=(left A L).set i t:=by
 rw [Ks ha hl] at hp
 have hd:l.drop (a+1)=t:=by
  have:=congrArg (List.drop 1) (Option.some.inj hp)
  rw [List.drop_drop] at this
  simpa using this
 apply List.ext_getElem?
 intro j
 by_cases e:i=j
 ·subst e
  have hi:=(List.getElem?_eq_some_iff.1 ha).1
  have hi2:=(List.getElem?_eq_some_iff.1 hl).1
  rw [Ks (List.getElem?_set_self hi) hl,List.getElem?_set_self (by unfold left;rw [List.length_zipWith];omega),hd]
 ·rw [List.getElem?_set_ne e]
  unfold left
  rw [List.getElem?_zipWith,List.getElem?_zipWith,List.getElem?_set_ne e]
theorem Aet {A:List Nat} {L:List (List Pr)} {i a:Nat} {l t:List Pr} {p:Pr} (ha:A[i]?=some a) (hl:L[i]?=some l) (hp:(left A L)[i]?=some (p::t)):a < l.length:=by
 rw [Ks ha hl] at hp
 have:=congrArg List.length (Option.some.inj hp)
 rw [List.length_drop,List.length_cons] at this
 omega
theorem Afu (L:List (List Pr)):left (List.replicate L.length 0) L=L:=by
 apply List.ext_getElem?
 intro j
 by_cases h:j < L.length
 ·have h1:L[j]?=some L[j]:=List.getElem?_eq_getElem h
  rw [Ks (a:=0) (by simp [h]) h1,h1];rfl
 ·rw [List.getElem?_eq_none (by rw [Z4 (by simp)];omega),List.getElem?_eq_none (by omega)]
theorem Agl {A:List Nat} {L:List (List Pr)} (h:∀ l∈L,Bh l):∀ l∈left A L,Bh l:=by
 intro l hl
 obtain⟨j,hj⟩:=List.getElem?_of_mem hl
 unfold left at hj
 rw [List.getElem?_zipWith] at hj
 cases ha:A[j]? with
 | none=> rw [ha] at hj;cases hj
 | some a=>
   cases hb:L[j]? with
   | none=> rw [ha,hb] at hj;cases hj
   | some b=>
     rw [ha,hb] at hj
     cases hj
     exact(h b (List.mem_of_getElem? hb)).sub (List.drop_sublist _ _)
end Go.Proofs.YtbibeionenjmfaaGreatDoor
namespace Go.Proofs.YtbibeionenjmfaaGreatDoor
open Go.RowKit
def Kz (h:Int) (c:UInt8):Int:=bits BinOp.xor IntKind.u32 h ((c.toNat:Int) % 4294967296) * 16777619 % 4294967296
def Ua (l:List UInt8):Int:=l.foldl Kz 2166136261
theorem Ac2 (h:Int) (c:UInt8):0≤Kz h c∧Kz h c < 4294967296:=by unfold Kz;omega
theorem All (l:List UInt8):0≤Ua l∧Ua l < 4294967296:=by
 have key:∀ (l:List UInt8) (h:Int),0≤h∧h < 4294967296→0≤l.foldl Kz h∧l.foldl Kz h < 4294967296:=by
  intro l
  induction l with
  | nil=> intro h hh;exact hh
  | cons a l ih=> intro h _;exact ih _ (Ac2 h a)
 exact key l _ (by omega)
theorem Ahe (s:ByteArray) (k:Nat) (h:k < s.size):Ua (s.data.toList.take (k+1))=Kz (Ua (s.data.toList.take k)) s[k]:=by
 unfold Ua
 rw [List.take_succ_eq_append_getElem (by simpa using h),List.foldl_append]
 rfl
def sliceB (s:ByteArray) (many:Int):Int:=Ua s.data.toList % max many 1
theorem P4 (s:ByteArray) (many:Int):0≤sliceB s many∧sliceB s many < max many 1:=by
 unfold sliceB
 exact⟨Int.emod_nonneg _ (by omega),Int.emod_lt_of_pos _ (by omega)⟩
set_option maxHeartbeats 400000 in
theorem Ak0 (s:ByteArray) (w:World) (hs:s.size≤maxLen):
 Calls Tryz.prog 161 #[.string s] w fun e w'=> e= .returned (.int .u32 (Ua s.data.toList))∧w=w':=by
 unfold maxLen at hs
 go_enter Tryz.func161,Tryz.ntmps161
 go_wp2
 go_loop [3,7] (fun h i=> ∃ k:Nat,k≤s.size∧i= .int .i64 k∧h= .int .u32 (Ua (s.data.toList.take k))) (fun _ i=> s.size - (intOf i).toNat)
 case atStart=> exact⟨0,by omega,rfl,rfl⟩
 case round=>
  obtain⟨k,hk,rfl,rfl⟩:=hrel
  by_cases hlt:k < s.size
  ·have hsn:=Ahe s k hlt
   have Hsn:=Aa hsn;clear hsn
   generalize Ua (s.data.toList.take k)=h at *
   go_wp2
   go_round
   case rel=> exact⟨k+1,by omega,by go_num,by rw [Hsn.out];rfl⟩
   case measure=> simp [intOf];omega
  ·go_wp2
   go_ret
   rw [List.take_of_length_le (by simp;omega)]
   exact⟨rfl,rfl⟩
theorem Ahi (s:ByteArray) (many:Int) (w:World) (hs:s.size≤maxLen) (hm:many≤1000):
 Calls Tryz.prog 121 #[.string s, .int .i64 many] w fun e w'=> e= .returned (.int .i64 (sliceB s many))∧w=w':=by
 have hb:=All s.data.toList
 have hr:sliceB s many=Ua s.data.toList % max many 1:=rfl
 have Hr:=Aa hr;clear hr
 go_enter Tryz.func121,Tryz.ntmps121
 go_wp2_with fail
 refine(Ak0 s _ hs).mono ?_
 rintro e w1 ⟨rfl,rfl⟩
 generalize Ua s.data.toList=hv at *
 go_wp2
 ·go_ret
  refine⟨Rp ?_,rfl⟩
  have hm1:max many 1=1:=by omega
  rw [Hr.out,hm1,Int.emod_one,IntWalk.wrap64_in 0 ⟨by decide,by decide⟩]
 ·go_ret
  refine⟨Rp ?_,rfl⟩
  have hm1:max many 1=many:=by omega
  have h1:=Int.emod_nonneg hv (show many≠0 by omega)
  have h2:=Int.emod_lt_of_pos hv (show 0 < many by omega)
  rw [Hr.out,hm1,IntWalk.wrap64_in _ ⟨by omega,by omega⟩]
end Go.Proofs.YtbibeionenjmfaaGreatDoor
