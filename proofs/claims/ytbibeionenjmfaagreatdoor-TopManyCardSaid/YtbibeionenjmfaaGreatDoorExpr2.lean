/- Expressions: how heavy (law.weight), how many and how deep (expr.size, ref.parts). -/
import Derived.Test.YtbibeionenjmfaaGreatDoorExpr
set_option linter.unusedSimpArgs false
set_option linter.unusedVariables false
namespace Go.Proofs.YtbibeionenjmfaaGreatDoor
open Go.RowKit Go.ChangeShapes Go.WideShapes Go.ChangeAt
abbrev Df (w:World) (k n:Int) (s:ByteArray) (ao:Option Addr) (len cap:Nat):World:=w.alloc (.cells #[.int .i64 k, .int .i64 n, .string s, .slice ao len cap] 191)
theorem Gr (w:World) (k n:Int) (s:ByteArray) (ao:Option Addr) (len cap:Nat):
 (Df w k n s ao len cap).cell? ⟨w.heap.size,0,none⟩=some (.int .i64 k)∧(Df w k n s ao len cap).cell? ⟨w.heap.size,1,none⟩=some (.int .i64 n)∧(Df w k n s ao len cap).cell? ⟨w.heap.size,2,none⟩=some (.string s)∧(Df w k n s ao len cap).cell? ⟨w.heap.size,3,none⟩=some (.slice ao len cap):=
 have h:=Bk.new (w:=w) (cs:= #[.int .i64 k, .int .i64 n, .string s, .slice ao len cap]) (t:=191) rfl
 ⟨h.get (j:=0) rfl,h.get (j:=1) rfl,h.get (j:=2) rfl,h.get (j:=3) rfl⟩
theorem D8 (w:World) (k n:Int) (s:ByteArray) (ao:Option Addr) (len cap:Nat):Below w.heap.size w (Df w k n s ao len cap):=(Below.refl _ _).alloc (Nat.le_refl _) _
theorem drop_cons {α:Type} {l:List α} {i:Nat} {x:α} (h:l[i]?=some x):l.drop i=x::l.drop (i+1):=by
 obtain⟨h1,h2⟩:=List.getElem?_eq_some_iff.1 h
 rw [←h2];exact List.drop_eq_getElem_cons h1
mutual
def Qp:Af→Int→Int→Bool×Int
 | .mk _ _ _ a,deep,left=> if 5 < deep∨left - 1 < 0 then(false,left - 1) else Xr a (deep+1) (left - 1)
def Xr:List Af→Int→Int→Bool×Int
 | [],_,left=> (true,left)
 | x::l,deep,left=> if (Qp x deep left).1=true then Xr l deep (Qp x deep left).2 else(false,(Qp x deep left).2)
end
mutual
theorem Ac7:∀ (e:Af) (deep left:Int),0≤left→(Qp e deep left).2 < left∧ -1≤(Qp e deep left).2∧((Qp e deep left).1=true→0≤(Qp e deep left).2)
 | .mk k n s a,deep,left,h=> by
   unfold Qp
   split
   ·exact⟨by show left - 1 < left;omega,by show -1≤left - 1;omega,fun h=> (by cases h)⟩
   ·have:=Aip a (deep+1) (left - 1) (by omega)
    exact⟨by omega,this.2.1,this.2.2⟩
theorem Aip:∀ (l:List Af) (deep left:Int),0≤left→(Xr l deep left).2≤left∧ -1≤(Xr l deep left).2∧((Xr l deep left).1=true→0≤(Xr l deep left).2)
 | [],deep,left,h=> by unfold Xr;exact⟨Int.le_refl _,by show -1≤left;omega,fun _=> h⟩
 | x::l,deep,left,h=> by
   have h1:=Ac7 x deep left h
   unfold Xr
   split
   ·rename_i hb
    have h2:=Aip l deep _ (h1.2.2 hb)
    exact⟨by omega,h2.2.1,h2.2.2⟩
   ·exact⟨by show(Qp x deep left).2≤left;omega,h1.2.1,fun h=> (by cases h)⟩
end
mutual
theorem Aee:∀ (e:Af) (deep left:Int),0≤left→(((Qp e deep left).1=true↔(e.nodes:Int)≤left∧deep+e.deep≤6)∧((Qp e deep left).1=true→(Qp e deep left).2=left - e.nodes))
 | .mk k n s a,deep,left,h=> by
   unfold Qp Af.nodes Af.deep
   split
   ·rename_i hc
    refine⟨⟨fun h=> (by cases h),fun⟨h1,h2⟩=> ?_⟩,fun h=> (by cases h)⟩
    push_cast at h1 h2
    omega
   ·rename_i hc
    have:=Ael a (deep+1) (left - 1) (by omega) (by omega)
    push_cast
    refine⟨?_,fun hb=> ?_⟩
    ·rw [this.1];constructor <;> intro h3 <;> omega
    ·rw [this.2 hb];omega
theorem Ael:∀ (l:List Af) (deep left:Int),0≤left→deep≤6→(((Xr l deep left).1=true↔(Af.C9 l:Int)≤left∧deep+Af.T8 l≤6)∧((Xr l deep left).1=true→(Xr l deep left).2=left - Af.C9 l))
 | [],deep,left,h,hd=> by unfold Xr Af.C9 Af.T8;simp;omega
 | x::l,deep,left,h,hd=> by
   have h1:=Aee x deep left h
   have h0:=Ac7 x deep left h
   unfold Xr Af.C9 Af.T8
   split
   ·rename_i hb
    have h2:=Ael l deep _ (h0.2.2 hb) hd
    rw [h1.2 hb] at h2 ⊢
    have h3:=h1.1.1 hb
    push_cast
    refine⟨?_,fun hb2=> ?_⟩
    ·rw [h2.1];constructor <;> intro h4 <;> omega
    ·rw [h2.2 hb2];omega
   ·rename_i hb
    refine⟨⟨fun h=> (by cases h),fun⟨h3,h4⟩=> ?_⟩,fun h=> (by cases h)⟩
    exact absurd (h1.1.2 ⟨by push_cast at h3;omega,by push_cast at h4;omega⟩) hb
end
end Go.Proofs.YtbibeionenjmfaaGreatDoor
