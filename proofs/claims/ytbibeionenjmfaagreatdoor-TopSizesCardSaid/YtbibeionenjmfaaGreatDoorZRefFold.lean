/- The references Two and Grouped: what each returns. -/
import Derived.Test.YtbibeionenjmfaaGreatDoorZBench3
import Derived.Test.YtbibeionenjmfaaGreatDoorZShelf
set_option linter.unusedSimpArgs false
set_option linter.unusedVariables false
namespace Go.Proofs.YtbibeionenjmfaaGreatDoor
open Go.RowKit
def Wb (p:Pr→Bool):Prop:=∀ a b:Pr,a.1=b.1→p a=p b
theorem T2 {p:Pr→Bool} (hp:Wb p) (l:List Pr) (k:List UInt8):(l.filter p).filter (Rs k)=(l.filter (Rs k)).filter p:=by
 rw [List.filter_filter,List.filter_filter]
 congr 1
 funext a
 exact Bool.and_comm _ _
theorem Aep {p:Pr→Bool} (hp:Wb p) (l:List Pr):(Dz l).filter p=Dz (l.filter p):=by
 refine Q8 ((Ft l).sub List.filter_sublist) fun k=> ?_
 rw [T2 hp,T2 hp,K7 l k]
theorem Rr {p:Pr→Bool} (hp:Wb p) {k:Int} {x:Pr}:∀ (l:List Pr),O5 l→(Hd k x l).filter p=if p x=true then Hd k x (l.filter p) else l.filter p
 | [],_=> by
   rw [Fl]
   by_cases h:p x=true
   ·rw [if_pos h,List.filter_cons_of_pos h,List.filter_nil,Fl]
   ·rw [if_neg h,List.filter_cons_of_neg h]
 | a::l,hi=> by
   have ih:=Rr hp (k:=k) (x:=x) l hi.tail
   rcases Mq (a:=a) (b:=x) with e | e | e
   ·rw [Ca e]
    by_cases ha:p a=true
    ·rw [List.filter_cons_of_pos ha,List.filter_cons_of_pos ha,ih]
     by_cases hx:p x=true
     ·rw [if_pos hx,if_pos hx,Ca e]
     ·rw [if_neg hx,if_neg hx]
    ·rw [List.filter_cons_of_neg ha,List.filter_cons_of_neg ha,ih]
   ·have hpp:=hp a x e
    have h2:p (a.1,two k a.2 x.2)=p x:=hp _ _ e
    rw [C0 e]
    by_cases hx:p x=true
    ·rw [if_pos hx,List.filter_cons_of_pos (by rw [h2];exact hx),List.filter_cons_of_pos (by rw [hpp];exact hx),C0 e]
    ·rw [if_neg hx,List.filter_cons_of_neg (by rw [h2];exact hx),List.filter_cons_of_neg (by rw [hpp];exact hx)]
   ·rw [Ck e]
    by_cases hx:p x=true
    ·rw [if_pos hx,List.filter_cons_of_pos hx]
     have hlt:∀ b∈(a::l).filter p,Cq x b=true:=by
      intro b hb
      rcases List.mem_cons.1 (List.mem_filter.1 hb).1 with h | h
      ·rw [h];exact e
      ·exact Gs e (hi.head b h)
     generalize (a::l).filter p=m at *
     rcases m with _ | ⟨b,m⟩
     ·rw [Fl]
     ·rw [Ck (hlt b List.mem_cons_self)]
    ·rw [if_neg hx,List.filter_cons_of_neg hx]
theorem Si {p:Pr→Bool} (hp:Wb p) {k:Int}:∀ (l o:List Pr),O5 o→(Ow k o l).filter p=Ow k (o.filter p) (l.filter p)
 | [],_,_=> rfl
 | x::l,o,ho=> by
   show(Ow k (Hd k x o) l).filter p=_
   rw [Si hp l _ (Qs ho),Rr hp o ho]
   by_cases hx:p x=true
   ·rw [if_pos hx,List.filter_cons_of_pos hx];rfl
   ·rw [if_neg hx,List.filter_cons_of_neg hx]
theorem Adj {p:Pr→Bool} (hp:Wb p) (k:Int) (l:List Pr):(P7 k l).filter p=P7 k (l.filter p):=by
 rw [Mk,Mk,Si hp l [] List.Pairwise.nil]
 rfl
theorem Aml (k:Int) (l:List Pr):P7 k (P7 k l)=P7 k l:=by
 have:=T6 k l []
 rwa [List.append_nil,List.append_nil] at this
def Bh (many:Int) (n:Nat) (p:Pr):Bool:=decide (sliceB p.1 many=n)
theorem Rq (many:Int) (n:Nat):Wb (Bh many n):=fun a b h=> by unfold Bh;rw [h]
def Ko (fold:Int) (early:Bool) (many:Nat) (l:List Pr):List (List Pr):=
 (List.range many).map fun n=> if early=true then Ae fold ((Dz l).filter (Bh many n)) else(Dz l).filter (Bh many n)
theorem Tt {fold:Int} {early:Bool} {many n:Nat} {l:List Pr} (h:n < many):(Ko fold early many l)[n]?=some (if early=true then P7 fold (l.filter (Bh many n)) else Dz (l.filter (Bh many n))):=by
 unfold Ko
 rw [List.getElem?_map,List.getElem?_range h]
 simp only [Option.map_some,Aep (Rq _ _)]
 rfl
end Go.Proofs.YtbibeionenjmfaaGreatDoor
namespace Go.Proofs.YtbibeionenjmfaaGreatDoor
open Go.RowKit
theorem J5 {c:UInt8}:∀ {l w:List UInt8},w∈splitAt c l→c ∉ w∧w.length≤l.length
 | [],w,h=> by simp [splitAt] at h;subst h;simp
 | b::l,w,h=> by
   unfold splitAt at h
   by_cases e:b=c
   ·rw [if_pos e] at h
    rcases List.mem_cons.1 h with h | h
    ·subst h;simp
    ·obtain⟨h1,h2⟩:=J5 h
     exact⟨h1,by simp;omega⟩
   ·rw [if_neg e] at h
    cases hs:splitAt c l with
    | nil=> exact absurd hs (Ov _ _)
    | cons x t=>
      rw [hs] at h
      rcases List.mem_cons.1 h with h | h
      ·subst h
       obtain⟨h1,h2⟩:=J5 (w:=x) (by rw [hs];exact List.mem_cons_self)
       exact⟨fun h=> by
        rcases List.mem_cons.1 h with h | h
        ·exact e h.symm
        ·exact h1 h,by simp;omega⟩
      ·obtain⟨h1,h2⟩:=J5 (w:=w) (by rw [hs];exact List.mem_cons_of_mem _ h)
       exact⟨h1,by simp;omega⟩
theorem Aiw {l w:List UInt8} (h:w∈Rf l):32 ∉ w∧w.length≤l.length∧w≠ []:=by
 unfold Rf at h
 rw [List.mem_filter] at h
 obtain⟨h1,h2⟩:=J5 h.1
 exact⟨h1,h2,by rintro rfl;simp at h⟩
theorem Ya (l:List UInt8):(Rf l).length≤l.length+1:=by
 unfold Rf
 refine Nat.le_trans (List.length_filter_le _ _) ?_
 induction l with
 | nil=> simp [splitAt]
 | cons b l ih=>
   unfold splitAt
   split
   ·simp;omega
   ·split
    ·rename_i h t e
     rw [e] at ih
     simp at ih ⊢;omega
    ·simp
end Go.Proofs.YtbibeionenjmfaaGreatDoor
namespace Go.Proofs.YtbibeionenjmfaaGreatDoor
open Go.RowKit
def brk (k:Int) (l:List Pr) (n:Nat):Prop:=∀ q p,(Ae k (l.take n)).getLast?=some q→l[n]?=some p→¬ q.1=p.1
theorem Ww {k:Int} {out:List Pr} {p:Pr} (h:∀ q,out.getLast?=some q→¬ q.1=p.1):Cn k out p=out++ [p]:=by
 unfold Cn
 split
 ·rename_i q hq;rw [if_neg (h q hq)]
 ·rename_i hq
  rw [List.getLast?_eq_none_iff.1 hq];rfl
theorem Ahg {k:Int} {out:List Pr} {x:ByteArray} {v y:Int}:Cn k (out++ [(x,v)]) (x,y)=out++ [(x,two k v y)]:=by
 unfold Cn;simp
end Go.Proofs.YtbibeionenjmfaaGreatDoor
