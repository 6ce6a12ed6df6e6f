/- Package pair: Sum and Slice: what each returns. -/
import Derived.Test.YtbibeionenjmfaaGreatDoorRows
import Derived.Test.YtbibeionenjmfaaGreatDoorZSortLaw
set_option linter.unusedSimpArgs false
set_option linter.unusedVariables false
namespace Go.Proofs.YtbibeionenjmfaaGreatDoor
open Go.RowKit
def Du (n:Int):Value:=if n=0 then .nilIface else .iface 91 (.int .i64 n)
theorem A3:Du 0= .nilIface:=rfl
theorem Ar {n:Int} (h:n≠0):Du n= .iface 91 (.int .i64 n):=if_neg h
end Go.Proofs.YtbibeionenjmfaaGreatDoor
namespace Go.Proofs.YtbibeionenjmfaaGreatDoor
open Go.RowKit
theorem Anq {A B:List Pr} {x:Pr} (ha:∀ y∈A,Cq x y=true) (hb:∀ y∈B,Cq y x=false):Dz (A++x::B)=x::Dz (A++B):=by
 symm
 refine Q8 ?_ ?_
 ·refine List.pairwise_cons.2 ⟨fun y hy=> ?_,Ft _⟩
  rcases List.mem_append.1 (Ph.1 hy) with h | h
  ·exact Hs (ha y h)
  ·exact hb y h
 ·have h1:B9 (x::Dz (A++B)) (x::(A++B)):=B9.append (a:= [x]) (b:= [x]) (B9.refl _) (K7 _)
  refine h1.trans fun k=> ?_
  by_cases hk:Rs k x=true
  ·have hn:A.filter (Rs k)= []:=by
    rw [List.filter_eq_nil_iff]
    intro y hy e
    have h2:=Yt (ha y hy)
    unfold Rs at hk e
    rw [beq_iff_eq] at hk e
    exact h2 (hk.trans e.symm)
   rw [List.filter_cons_of_pos hk,List.filter_append,List.filter_append,List.filter_cons_of_pos hk,hn];rfl
  ·rw [List.filter_cons_of_neg hk,List.filter_append,List.filter_append,List.filter_cons_of_neg hk]
def Hh (R:List (List Pr)) (k:Nat) (b:Int):Prop:=
 (b= -1∧∀ j l,j < k→R[j]?=some l→l= [])∨∃ m x t,b=((m:Nat):Int)∧m < k∧R[m]?=some (x::t)∧(∀ j y t',j < m→R[j]?=some (y::t')→Cq x y=true)∧∀ j y t',m < j→j < k→R[j]?=some (y::t')→Cq y x=false
theorem Hh.zero (R:List (List Pr)):Hh R 0 (-1):= .inl ⟨rfl,fun j l h=> by omega⟩
theorem Hh.range {R:List (List Pr)} {k:Nat} {b:Int} (h:Hh R k b): -1≤b∧b < (k:Int):=by
 rcases h with ⟨h,_⟩ | ⟨m,x,t,h,h2,_⟩ <;> omega
theorem Hh.skip {R:List (List Pr)} {k:Nat} {b:Int} (h:Hh R k b) (hk:R[k]?=some []):Hh R (k+1) b:=by
 rcases h with ⟨h,h1⟩ | ⟨m,x,t,h,h2,h3,h4,h5⟩
 ·refine .inl ⟨h,fun j l hj hl=> ?_⟩
  by_cases e:j=k
  ·subst e;rw [hk] at hl;cases hl;rfl
  ·exact h1 j l (by omega) hl
 ·refine .inr ⟨m,x,t,h,by omega,h3,h4,fun j y t' hm hj hl=> ?_⟩
  by_cases e:j=k
  ·subst e;rw [hk] at hl;cases hl
  ·exact h5 j y t' hm (by omega) hl
theorem Hh.first {R:List (List Pr)} {k:Nat} {x:Pr} {t:List Pr} (h:Hh R k (-1)) (hk:R[k]?=some (x::t)):Hh R (k+1) k:=by
 rcases h with ⟨h,h1⟩ | ⟨m,x,t,h,h2,h3,h4,h5⟩
 ·refine .inr ⟨k,x,t,rfl,by omega,hk,fun j y t' hj hl=> ?_,fun j y t' hm hj hl=> by omega⟩
  cases h1 j _ hj hl
 ·omega
theorem Hh.better {R:List (List Pr)} {k m:Nat} {x y:Pr} {t t':List Pr} (h:Hh R k m) (hm:R[m]?=some (x::t)) (hk:R[k]?=some (y::t')) (hy:Cq y x=true):Hh R (k+1) k:=by
 rcases h with ⟨h,h1⟩ | ⟨m',x',t1,h,h2,h3,h4,h5⟩
 ·omega
 ·obtain rfl:m=m':=by omega
  rw [hm] at h3;cases h3
  refine .inr ⟨k,y,t',rfl,by omega,hk,fun j z t2 hj hl=> ?_,fun j y t' hm hj hl=> by omega⟩
  by_cases e:j=m
  ·subst e;rw [hm] at hl;cases hl;exact hy
  ·by_cases e2:j < m
   ·exact Gs hy (h4 j z t2 e2 hl)
   ·exact S5 hy (h5 j z t2 (by omega) hj hl)
theorem Hh.Ahv {R:List (List Pr)} {k m:Nat} {x y:Pr} {t t':List Pr} (h:Hh R k m) (hm:R[m]?=some (x::t)) (hk:R[k]?=some (y::t')) (hy:Cq y x=false):Hh R (k+1) m:=by
 rcases h with ⟨h,h1⟩ | ⟨m',x',t1,h,h2,h3,h4,h5⟩
 ·omega
 ·obtain rfl:m=m':=by omega
  rw [hm] at h3;cases h3
  refine .inr ⟨m,x,t,rfl,by omega,hm,h4,fun j z t2 hj hl he=> ?_⟩
  by_cases e:j=k
  ·subst e;rw [hk] at he;cases he;exact hy
  ·exact h5 j z t2 hj (by omega) he
theorem Hh.no {R:List (List Pr)} (h:Hh R R.length (-1)):R.flatten= []:=by
 rcases h with ⟨h,h1⟩ | ⟨m,x,t,h,_⟩
 ·rw [List.flatten_eq_nil_iff]
  intro l hl
  obtain⟨j,hj⟩:=List.getElem?_of_mem hl
  exact h1 j l (List.getElem?_eq_some_iff.1 hj).1 hj
 ·omega
theorem Ro {R:List (List Pr)} {m:Nat} {l:List Pr} (h:R[m]?=some l) (l':List Pr):R.flatten=(R.take m).flatten++(l++(R.drop (m+1)).flatten)∧(R.set m l').flatten=(R.take m).flatten++(l'++(R.drop (m+1)).flatten):=by
 obtain⟨hlt,hx⟩:=List.getElem?_eq_some_iff.1 h
 constructor
 ·conv=> lhs;rw [←List.take_append_drop m R,List.drop_eq_getElem_cons hlt,hx]
  rw [List.flatten_append,List.flatten_cons]
 ·rw [List.set_eq_take_append_cons_drop,if_pos hlt,List.flatten_append,List.flatten_cons]
theorem Hh.yes {R:List (List Pr)} {m:Nat} (h:Hh R R.length m) (hr:∀ l∈R,Bl l):∃ x t,R[m]?=some (x::t)∧Dz R.flatten=x::Dz (R.set m t).flatten:=by
 rcases h with ⟨h,h1⟩ | ⟨m',x,t,h,h2,h3,h4,h5⟩
 ·omega
 ·obtain rfl:m=m':=by omega
  refine⟨x,t,h3,?_⟩
  obtain⟨e1,e2⟩:=Ro h3 t
  rw [e1,e2]
  have hx:=hr _ (List.mem_of_getElem? h3)
  have hxt:=(List.pairwise_cons.1 hx).1
  refine Anq (fun y hy=> ?_) (fun y hy=> ?_)
  ·obtain⟨l,hl,hyl⟩:=List.mem_flatten.1 hy
   obtain⟨j,hj⟩:=List.getElem?_of_mem hl
   have hjm:j < m:=by have:=(List.getElem?_eq_some_iff.1 hj).1;rw [List.length_take] at this;omega
   rw [List.getElem?_take_of_lt hjm] at hj
   match l,hj,hyl with
   | z::t2,hj,hyl=>
     have hz:=h4 j z t2 hjm hj
     rcases List.mem_cons.1 hyl with e | e
     ·rw [e];exact hz
     ·exact S5 hz ((List.pairwise_cons.1 (hr _ (List.mem_of_getElem? hj))).1 y e)
  ·rcases List.mem_append.1 hy with h | hy
   ·exact hxt y h
   ·obtain⟨l,hl,hyl⟩:=List.mem_flatten.1 hy
    obtain⟨j,hj⟩:=List.getElem?_of_mem hl
    rw [List.getElem?_drop] at hj
    have hlt:=(List.getElem?_eq_some_iff.1 hj).1
    match l,hj,hyl with
    | z::t2,hj,hyl=>
      have hz:=h5 (m+1+j) z t2 (by omega) hlt hj
      rcases List.mem_cons.1 hyl with e | e
      ·rw [e];exact hz
      ·exact Gr hz ((List.pairwise_cons.1 (hr _ (List.mem_of_getElem? hj))).1 y e)
theorem Hh.head {R:List (List Pr)} {k m:Nat} (h:Hh R k m):∃ x t,R[m]?=some (x::t):=by
 rcases h with ⟨h,h1⟩ | ⟨m',x,t,h,h2,h3,h4,h5⟩
 ·omega
 ·obtain rfl:m=m':=by omega
  exact⟨x,t,h3⟩
def left (A:List Nat) (L:List (List Pr)):List (List Pr):=List.zipWith (fun a l=> l.drop a) A L
theorem Abc {A:List Nat} {L:List (List Pr)} (h:A.length=L.length):(left A L).length=L.length:=by unfold left;rw [List.length_zipWith];omega
theorem Kt {A:List Nat} {L:List (List Pr)} {i a:Nat} {l:List Pr} (ha:A[i]?=some a) (hl:L[i]?=some l):(left A L)[i]?=some (l.drop a):=by
 unfold left;rw [List.getElem?_zipWith,ha,hl]
theorem left_at {A:List Nat} {L:List (List Pr)} {i a:Nat} {l:List Pr} {p:Pr} (ha:A[i]?=some a) (hl:L[i]?=some l) (hp:l[a]?=some p):(left A L)[i]?=some (p::l.drop (a+1)):=by
 rw [Kt ha hl]
 obtain⟨hlt,hx⟩:=List.getElem?_eq_some_iff.1 hp
 rw [List.drop_eq_getElem_cons hlt,hx]
theorem Akp {A:List Nat} {L:List (List Pr)} {i a:Nat} {l:List Pr} (ha:A[i]?=some a) (hl:L[i]?=some l) (hp:l.length≤a):(left A L)[i]?=some []:=by
 rw [Kt ha hl,List.drop_eq_nil_of_le hp]
theorem Akq {A:List Nat} {L:List (List Pr)} {i a:Nat} {l t:List Pr} {p:Pr} (ha:A[i]?=some a) (hl:L[i]?=some l) (hp:(left A L)[i]?=some (p::t)):left (A.set i (a+1)) L=(left A L).set i t:=by
 rw [Kt ha hl] at hp
 have hd:l.drop (a+1)=t:=by
  have:=congrArg (List.drop 1) (Option.some.inj hp)
  rw [List.drop_drop] at this
  simpa using this
 apply List.ext_getElem?
 intro j
 by_cases e:i=j
 ·subst e
  have hi:=(List.getElem?_eq_some_iff.1 ha).1
  have hi2:=(List.getElem?_eq_some_iff.1 hl).1
  rw [Kt (List.getElem?_set_self hi) hl,List.getElem?_set_self (by unfold left;rw [List.length_zipWith];omega),hd]
 ·rw [List.getElem?_set_ne e]
  unfold left
  rw [List.getElem?_zipWith,List.getElem?_zipWith,List.getElem?_set_ne e]
theorem Afn {A:List Nat} {L:List (List Pr)} {i a:Nat} {l t:List Pr} {p:Pr} (ha:A[i]?=some a) (hl:L[i]?=some l) (hp:(left A L)[i]?=some (p::t)):a < l.length:=by
 rw [Kt ha hl] at hp
 have:=congrArg List.length (Option.some.inj hp)
 rw [List.length_drop,List.length_cons] at this
 omega
theorem Ahx (L:List (List Pr)):left (List.replicate L.length 0) L=L:=by
 apply List.ext_getElem?
 intro j
 by_cases h:j < L.length
 ·have h1:L[j]?=some L[j]:=List.getElem?_eq_getElem h
  rw [Kt (a:=0) (by simp [h]) h1,h1];rfl
 ·rw [List.getElem?_eq_none (by rw [Abc (by simp)];omega),List.getElem?_eq_none (by omega)]
theorem Ahw {A:List Nat} {L:List (List Pr)} (h:∀ l∈L,Bl l):∀ l∈left A L,Bl l:=by
 intro l hl
 obtain⟨j,hj⟩:=List.getElem?_of_mem hl
 unfold left at hj
 rw [List.getElem?_zipWith] at hj
 cases ha:A[j]? with
 | none=> rw [ha] at hj;cases hj
 | some a=>
   cases hb:L[j]? with
   | none=> rw [ha,hb] at hj;cases hj
   | some b=>
     rw [ha,hb] at hj
     cases hj
     exact(h b (List.mem_of_getElem? hb)).sub (List.drop_sublist _ _)
end Go.Proofs.YtbibeionenjmfaaGreatDoor
namespace Go.Proofs.YtbibeionenjmfaaGreatDoor
open Go.RowKit
def L5 (h:Int) (c:UInt8):Int:=bits BinOp.xor IntKind.u32 h ((c.toNat:Int) % 4294967296) * 16777619 % 4294967296
def Vc (l:List UInt8):Int:=l.foldl L5 2166136261
theorem Aet (h:Int) (c:UInt8):0≤L5 h c∧L5 h c < 4294967296:=by unfold L5;omega
theorem Ant (l:List UInt8):0≤Vc l∧Vc l < 4294967296:=by
 have key:∀ (l:List UInt8) (h:Int),0≤h∧h < 4294967296→0≤l.foldl L5 h∧l.foldl L5 h < 4294967296:=by
  intro l
  induction l with
  | nil=> intro h hh;exact hh
  | cons a l ih=> intro h _;exact ih _ (Aet h a)
 exact key l _ (by omega)
theorem Aip (s:ByteArray) (k:Nat) (h:k < s.size):Vc (s.data.toList.take (k+1))=L5 (Vc (s.data.toList.take k)) s[k]:=by
 unfold Vc
 rw [List.take_succ_eq_append_getElem (by simpa using h),List.foldl_append]
 rfl
def sliceB (s:ByteArray) (many:Int):Int:=Vc s.data.toList % max many 1
theorem Q6 (s:ByteArray) (many:Int):0≤sliceB s many∧sliceB s many < max many 1:=by
 unfold sliceB
 exact⟨Int.emod_nonneg _ (by omega),Int.emod_lt_of_pos _ (by omega)⟩
set_option maxHeartbeats 400000 in
theorem Al8 (s:ByteArray) (w:World) (hs:s.size≤maxLen):
 Calls Tryz.prog 161 #[.string s] w fun e w'=> e= .returned (.int .u32 (Vc s.data.toList))∧w=w':=by
 unfold maxLen at hs
 go_enter Tryz.func161,Tryz.ntmps161
 go_wp2
 go_loop [3,7] (fun h i=> ∃ k:Nat,k≤s.size∧i= .int .i64 k∧h= .int .u32 (Vc (s.data.toList.take k))) (fun _ i=> s.size - (intOf i).toNat)
 case atStart=> exact⟨0,by omega,rfl,rfl⟩
 case round=>
  obtain⟨k,hk,rfl,rfl⟩:=hrel
  by_cases hlt:k < s.size
  ·have hsn:=Aip s k hlt
   have Hsn:=Aa hsn;clear hsn
   generalize Vc (s.data.toList.take k)=h at *
   go_wp2
   go_round
   case rel=> exact⟨k+1,by omega,by go_num,by rw [Hsn.out];rfl⟩
   case measure=> simp [intOf];omega
  ·go_wp2
   go_ret
   rw [List.take_of_length_le (by simp;omega)]
   exact⟨rfl,rfl⟩
theorem Agv (s:ByteArray) (many:Int) (w:World) (hs:s.size≤maxLen) (hm:many≤1000):
 Calls Tryz.prog 121 #[.string s, .int .i64 many] w fun e w'=> e= .returned (.int .i64 (sliceB s many))∧w=w':=by
 have hb:=Ant s.data.toList
 have hr:sliceB s many=Vc s.data.toList % max many 1:=rfl
 have Hr:=Aa hr;clear hr
 go_enter Tryz.func121,Tryz.ntmps121
 go_wp2_with fail
 refine(Al8 s _ hs).mono ?_
 rintro e w1 ⟨rfl,rfl⟩
 generalize Vc s.data.toList=hv at *
 go_wp2
 ·go_ret
  refine⟨Se ?_,rfl⟩
  have hm1:max many 1=1:=by omega
  rw [Hr.out,hm1,Int.emod_one,IntWalk.wrap64_in 0 ⟨by decide,by decide⟩]
 ·go_ret
  refine⟨Se ?_,rfl⟩
  have hm1:max many 1=many:=by omega
  have h1:=Int.emod_nonneg hv (show many≠0 by omega)
  have h2:=Int.emod_lt_of_pos hv (show 0 < many by omega)
  rw [Hr.out,hm1,IntWalk.wrap64_in _ ⟨by omega,by omega⟩]
end Go.Proofs.YtbibeionenjmfaaGreatDoor
