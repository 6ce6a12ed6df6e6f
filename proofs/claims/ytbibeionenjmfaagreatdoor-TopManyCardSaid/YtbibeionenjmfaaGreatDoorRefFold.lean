/- The references Two and Grouped: what each returns. -/
import Derived.Test.YtbibeionenjmfaaGreatDoorGroupLaw
set_option linter.unusedSimpArgs false
set_option linter.unusedVariables false
namespace Go.Proofs.YtbibeionenjmfaaGreatDoor
open Go.RowKit
def Xg (p:Pr→Bool):Prop:=∀ a b:Pr,a.1=b.1→p a=p b
theorem Tr {p:Pr→Bool} (hp:Xg p) (l:List Pr) (k:List UInt8):(l.filter p).filter (Rz k)=(l.filter (Rz k)).filter p:=by
 rw [List.filter_filter,List.filter_filter]
 congr 1
 funext a
 exact Bool.and_comm _ _
theorem Ab9 {p:Pr→Bool} (hp:Xg p) (l:List Pr):(Dq l).filter p=Dq (l.filter p):=by
 refine Qb ((Fk l).sub List.filter_sublist) fun k=> ?_
 rw [Tr hp,Tr hp,Ko l k]
theorem Re {p:Pr→Bool} (hp:Xg p) {k:Int} {x:Pr}:∀ (l:List Pr),O7 l→(Ha k x l).filter p=if p x=true then Ha k x (l.filter p) else l.filter p
 | [],_=> by
   rw [Fc]
   by_cases h:p x=true
   ·rw [if_pos h,List.filter_cons_of_pos h,List.filter_nil,Fc]
   ·rw [if_neg h,List.filter_cons_of_neg h]
 | a::l,hi=> by
   have ih:=Re hp (k:=k) (x:=x) l hi.tail
   rcases Me (a:=a) (b:=x) with e | e | e
   ·rw [B5 e]
    by_cases ha:p a=true
    ·rw [List.filter_cons_of_pos ha,List.filter_cons_of_pos ha,ih]
     by_cases hx:p x=true
     ·rw [if_pos hx,if_pos hx,B5 e]
     ·rw [if_neg hx,if_neg hx]
    ·rw [List.filter_cons_of_neg ha,List.filter_cons_of_neg ha,ih]
   ·have hpp:=hp a x e
    have h2:p (a.1,two k a.2 x.2)=p x:=hp _ _ e
    rw [Cw e]
    by_cases hx:p x=true
    ·rw [if_pos hx,List.filter_cons_of_pos (by rw [h2];exact hx),List.filter_cons_of_pos (by rw [hpp];exact hx),Cw e]
    ·rw [if_neg hx,List.filter_cons_of_neg (by rw [h2];exact hx),List.filter_cons_of_neg (by rw [hpp];exact hx)]
   ·rw [Cg e]
    by_cases hx:p x=true
    ·rw [if_pos hx,List.filter_cons_of_pos hx]
     have hlt:∀ b∈(a::l).filter p,Co x b=true:=by
      intro b hb
      rcases List.mem_cons.1 (List.mem_filter.1 hb).1 with h | h
      ·rw [h];exact e
      ·exact Gn e (hi.head b h)
     generalize (a::l).filter p=m at *
     rcases m with _ | ⟨b,m⟩
     ·rw [Fc]
     ·rw [Cg (hlt b List.mem_cons_self)]
    ·rw [if_neg hx,List.filter_cons_of_neg hx]
theorem Rj {p:Pr→Bool} (hp:Xg p) {k:Int}:∀ (l o:List Pr),O7 o→(Nt k o l).filter p=Nt k (o.filter p) (l.filter p)
 | [],_,_=> rfl
 | x::l,o,ho=> by
   show(Nt k (Ha k x o) l).filter p=_
   rw [Rj hp l _ (Qu ho),Re hp o ho]
   by_cases hx:p x=true
   ·rw [if_pos hx,List.filter_cons_of_pos hx];rfl
   ·rw [if_neg hx,List.filter_cons_of_neg hx]
theorem Ade {p:Pr→Bool} (hp:Xg p) (k:Int) (l:List Pr):(Pt k l).filter p=Pt k (l.filter p):=by
 rw [Mt,Mt,Rj hp l [] List.Pairwise.nil]
 rfl
theorem Amz (k:Int) (l:List Pr):Pt k (Pt k l)=Pt k l:=by
 have:=Tt k l []
 rwa [List.append_nil,List.append_nil] at this
def Bf (many:Int) (n:Nat) (p:Pr):Bool:=decide (sliceB p.1 many=n)
theorem Rb (many:Int) (n:Nat):Xg (Bf many n):=fun a b h=> by unfold Bf;rw [h]
def Ke (fold:Int) (early:Bool) (many:Nat) (l:List Pr):List (List Pr):=
 (List.range many).map fun n=> if early=true then Ae fold ((Dq l).filter (Bf many n)) else(Dq l).filter (Bf many n)
theorem Uw {fold:Int} {early:Bool} {many n:Nat} {l:List Pr} (h:n < many):(Ke fold early many l)[n]?=some (if early=true then Pt fold (l.filter (Bf many n)) else Dq (l.filter (Bf many n))):=by
 unfold Ke
 rw [List.getElem?_map,List.getElem?_range h]
 simp only [Option.map_some,Ab9 (Rb _ _)]
 rfl
end Go.Proofs.YtbibeionenjmfaaGreatDoor
namespace Go.Proofs.YtbibeionenjmfaaGreatDoor
open Go.RowKit
theorem Ji {c:UInt8}:∀ {l w:List UInt8},w∈splitAt c l→c ∉ w∧w.length≤l.length
 | [],w,h=> by simp [splitAt] at h;subst h;simp
 | b::l,w,h=> by
   unfold splitAt at h
   by_cases e:b=c
   ·rw [if_pos e] at h
    rcases List.mem_cons.1 h with h | h
    ·subst h;simp
    ·obtain⟨h1,h2⟩:=Ji h
     exact⟨h1,by simp;omega⟩
   ·rw [if_neg e] at h
    cases hs:splitAt c l with
    | nil=> exact absurd hs (Om _ _)
    | cons x t=>
      rw [hs] at h
      rcases List.mem_cons.1 h with h | h
      ·subst h
       obtain⟨h1,h2⟩:=Ji (w:=x) (by rw [hs];exact List.mem_cons_self)
       exact⟨fun h=> by
        rcases List.mem_cons.1 h with h | h
        ·exact e h.symm
        ·exact h1 h,by simp;omega⟩
      ·obtain⟨h1,h2⟩:=Ji (w:=w) (by rw [hs];exact List.mem_cons_of_mem _ h)
       exact⟨h1,by simp;omega⟩
theorem Afp {l w:List UInt8} (h:w∈Qo l):32 ∉ w∧w.length≤l.length∧w≠ []:=by
 unfold Qo at h
 rw [List.mem_filter] at h
 obtain⟨h1,h2⟩:=Ji h.1
 exact⟨h1,h2,by rintro rfl;simp at h⟩
theorem V9 (l:List UInt8):(Qo l).length≤l.length+1:=by
 unfold Qo
 refine Nat.le_trans (List.length_filter_le _ _) ?_
 induction l with
 | nil=> simp [splitAt]
 | cons b l ih=>
   unfold splitAt
   split
   ·simp;omega
   ·split
    ·rename_i h t e
     rw [e] at ih
     simp at ih ⊢;omega
    ·simp
end Go.Proofs.YtbibeionenjmfaaGreatDoor
namespace Go.Proofs.YtbibeionenjmfaaGreatDoor
open Go.RowKit
def brk (k:Int) (l:List Pr) (n:Nat):Prop:=∀ q p,(Ae k (l.take n)).getLast?=some q→l[n]?=some p→¬ q.1=p.1
theorem V3 {k:Int} {out:List Pr} {p:Pr} (h:∀ q,out.getLast?=some q→¬ q.1=p.1):Ck k out p=out++ [p]:=by
 unfold Ck
 split
 ·rename_i q hq;rw [if_neg (h q hq)]
 ·rename_i hq
  rw [List.getLast?_eq_none_iff.1 hq];rfl
theorem Agz {k:Int} {out:List Pr} {x:ByteArray} {v y:Int}:Ck k (out++ [(x,v)]) (x,y)=out++ [(x,two k v y)]:=by
 unfold Ck;simp
end Go.Proofs.YtbibeionenjmfaaGreatDoor
