/- Expressions as plain trees; how they lie in memory; from the form's reading to trees. -/
import Derived.Lib.SmallJoins
import Derived.Test.YtbibeionenjmfaaGreatDoorWords
set_option linter.unusedSimpArgs false
set_option linter.unusedVariables false
namespace Go.Proofs.YtbibeionenjmfaaGreatDoor
open Go.RowKit Go.ChangeShapes Go.WideShapes Go.ChangeAt
inductive Af where
 | mk (k n:Int) (s:ByteArray) (a:List Af)
instance:Inhabited Af:=⟨.mk 0 0 ByteArray.empty []⟩
mutual
def Af.nodes:Af→Nat
 | .mk _ _ _ a=> 1+Af.C9 a
def Af.C9:List Af→Nat
 | []=> 0
 | x::l=> Af.nodes x+Af.C9 l
end
mutual
def Af.deep:Af→Nat
 | .mk _ _ _ a=> Af.T8 a+1
def Af.T8:List Af→Nat
 | []=> 0
 | x::l=> max (Af.deep x) (Af.T8 l)
end
def L3 (k n:Int) (s:ByteArray) (ao:Option Addr) (len cap:Nat):List Value:= [.int .i64 k, .int .i64 n, .string s, .slice ao len cap]
def Mq (E:Af→List Value→Prop) (w:World) (ao:Option Addr) (a:List Af):Prop:=
 ∀ (i:Nat) x,a[i]?=some x→∃ b off q,ao=some ⟨b,off,none⟩∧b < w.heap.size∧(∀ (j:Nat) u,q[j]?=some u→w.cell? ⟨b,off+i * 4+j,none⟩=some u)∧E x q
def Ir (w:World):Nat→Af→List Value→Prop
 | 0,_,_=> False
 | d+1, .mk k n s a,cs=> ∃ ao cap,cs=L3 k n s ao a.length cap∧(-9223372036854775808≤k∧k≤9223372036854775807)∧(-9223372036854775808≤n∧n≤9223372036854775807)∧s.size≤maxLen∧a.length≤maxLen∧Mq (Ir w d) w ao a
theorem Mq.mono {E E':Af→List Value→Prop} {w w':World} {ao:Option Addr} {a:List Af} (h:Mq E w ao a) (hE:∀ x q,E x q→E' x q) {B:Nat} (hb:Below B w w') (hB:w.heap.size≤B):Mq E' w' ao a:=by
 intro i x hi
 obtain⟨b,off,q,e,hlt,hc,hq⟩:=h i x hi
 refine⟨b,off,q,e,by have:=hb.size;omega,fun j u hj=> ?_,hE _ _ hq⟩
 rw [hb.cell (p:=⟨b,off+i * 4+j,none⟩) (by show b < B;omega)];exact hc j u hj
theorem Ir.later {w w':World} {B:Nat} (hb:Below B w w') (hB:w.heap.size≤B):∀ {d:Nat} {e:Af} {cs:List Value},Ir w d e cs→Ir w' d e cs
 | 0,_,_,h=> h
 | d+1, .mk k n s a,cs,h=> by
   obtain⟨ao,cap,e,h1,h2,h3,h4,h5⟩:=h
   exact⟨ao,cap,e,h1,h2,h3,h4,h5.mono (fun x q hq=> Ir.later hb hB hq) hb hB⟩
theorem Mq.kid {w:World} {d:Nat} {ao:Option Addr} {a:List Af} (h:Mq (Ir w d) w ao a) {i:Nat} (hi:i < a.length):
 ∃ b off d' k n s l ao' cap',ao=some ⟨b,off,none⟩∧b < w.heap.size∧d=d'+1∧a[i]?=some (.mk k n s l)∧Ir w d (.mk k n s l) (L3 k n s ao' l.length cap')∧
   w.cell? ⟨b,off+i * 4,none⟩=some (.int .i64 k)∧w.cell? ⟨b,off+i * 4+1,none⟩=some (.int .i64 n)∧w.cell? ⟨b,off+i * 4+2,none⟩=some (.string s)∧w.cell? ⟨b,off+i * 4+3,none⟩=some (.slice ao' l.length cap'):=by
 obtain⟨b,off,q,e,hlt,hc,hq⟩:=h i _ (List.getElem?_eq_getElem hi)
 obtain⟨x,hx⟩:∃ x,a[i]=x:=⟨_,rfl⟩
 rw [hx] at hq
 cases d with
 | zero=> exact hq.elim
 | succ d'=>
   obtain⟨k,n,s,l⟩:=x
   have hq':=hq
   obtain⟨ao',cap',rfl,_⟩:=hq
   exact⟨b,off,d',k,n,s,l,ao',cap',e,hlt,rfl,by rw [List.getElem?_eq_getElem hi,hx],hq',hc 0 _ rfl,hc 1 _ rfl,hc 2 _ rfl,hc 3 _ rfl⟩
end Go.Proofs.YtbibeionenjmfaaGreatDoor
