/- Expressions: expr.size and ref.parts are walked. -/
import Derived.Lib.SmallJoins
import Derived.Test.YtbibeionenjmfaaGreatDoorZTexts
set_option linter.unusedSimpArgs false
set_option linter.unusedVariables false
namespace Go.Proofs.YtbibeionenjmfaaGreatDoor
open Go.RowKit Go.ChangeShapes Go.WideShapes Go.ChangeAt
inductive Ah where
 | mk (k n:Int) (s:ByteArray) (a:List Ah)
instance:Inhabited Ah:=⟨.mk 0 0 ByteArray.empty []⟩
mutual
def Ah.nodes:Ah→Nat
 | .mk _ _ _ a=> 1+Ah.Da a
def Ah.Da:List Ah→Nat
 | []=> 0
 | x::l=> Ah.nodes x+Ah.Da l
end
mutual
def Ah.deep:Ah→Nat
 | .mk _ _ _ a=> Ah.Tu a+1
def Ah.Tu:List Ah→Nat
 | []=> 0
 | x::l=> max (Ah.deep x) (Ah.Tu l)
end
def Mh (k n:Int) (s:ByteArray) (ao:Option Addr) (len cap:Nat):List Value:= [.int .i64 k, .int .i64 n, .string s, .slice ao len cap]
def Mf (E:Ah→List Value→Prop) (w:World) (ao:Option Addr) (a:List Ah):Prop:=
 ∀ (i:Nat) x,a[i]?=some x→∃ b off q,ao=some ⟨b,off,none⟩∧b < w.heap.size∧(∀ (j:Nat) u,q[j]?=some u→w.cell? ⟨b,off+i * 4+j,none⟩=some u)∧E x q
def Ip (w:World):Nat→Ah→List Value→Prop
 | 0,_,_=> False
 | d+1, .mk k n s a,cs=> ∃ ao cap,cs=Mh k n s ao a.length cap∧(-9223372036854775808≤k∧k≤9223372036854775807)∧(-9223372036854775808≤n∧n≤9223372036854775807)∧s.size≤maxLen∧a.length≤maxLen∧Mf (Ip w d) w ao a
theorem Mf.mono {E E':Ah→List Value→Prop} {w w':World} {ao:Option Addr} {a:List Ah} (h:Mf E w ao a) (hE:∀ x q,E x q→E' x q) {B:Nat} (hb:Below B w w') (hB:w.heap.size≤B):Mf E' w' ao a:=by
 intro i x hi
 obtain⟨b,off,q,e,hlt,hc,hq⟩:=h i x hi
 refine⟨b,off,q,e,by have:=hb.size;omega,fun j u hj=> ?_,hE _ _ hq⟩
 rw [hb.cell (p:=⟨b,off+i * 4+j,none⟩) (by show b < B;omega)];exact hc j u hj
theorem Ip.later {w w':World} {B:Nat} (hb:Below B w w') (hB:w.heap.size≤B):∀ {d:Nat} {e:Ah} {cs:List Value},Ip w d e cs→Ip w' d e cs
 | 0,_,_,h=> h
 | d+1, .mk k n s a,cs,h=> by
   obtain⟨ao,cap,e,h1,h2,h3,h4,h5⟩:=h
   exact⟨ao,cap,e,h1,h2,h3,h4,h5.mono (fun x q hq=> Ip.later hb hB hq) hb hB⟩
theorem Mf.kid {w:World} {d:Nat} {ao:Option Addr} {a:List Ah} (h:Mf (Ip w d) w ao a) {i:Nat} (hi:i < a.length):
 ∃ b off d' k n s l ao' cap',ao=some ⟨b,off,none⟩∧b < w.heap.size∧d=d'+1∧a[i]?=some (.mk k n s l)∧Ip w d (.mk k n s l) (Mh k n s ao' l.length cap')∧
   w.cell? ⟨b,off+i * 4,none⟩=some (.int .i64 k)∧w.cell? ⟨b,off+i * 4+1,none⟩=some (.int .i64 n)∧w.cell? ⟨b,off+i * 4+2,none⟩=some (.string s)∧w.cell? ⟨b,off+i * 4+3,none⟩=some (.slice ao' l.length cap'):=by
 obtain⟨b,off,q,e,hlt,hc,hq⟩:=h i _ (List.getElem?_eq_getElem hi)
 obtain⟨x,hx⟩:∃ x,a[i]=x:=⟨_,rfl⟩
 rw [hx] at hq
 cases d with
 | zero=> exact hq.elim
 | succ d'=>
   obtain⟨k,n,s,l⟩:=x
   have hq':=hq
   obtain⟨ao',cap',rfl,_⟩:=hq
   exact⟨b,off,d',k,n,s,l,ao',cap',e,hlt,rfl,by rw [List.getElem?_eq_getElem hi,hx],hq',hc 0 _ rfl,hc 1 _ rfl,hc 2 _ rfl,hc 3 _ rfl⟩
end Go.Proofs.YtbibeionenjmfaaGreatDoor
namespace Go.Proofs.YtbibeionenjmfaaGreatDoor
open Go.RowKit Go.ChangeShapes Go.WideShapes Go.ChangeAt
abbrev Dj (w:World) (k n:Int) (s:ByteArray) (ao:Option Addr) (len cap:Nat):World:=w.alloc (.cells #[.int .i64 k, .int .i64 n, .string s, .slice ao len cap] 191)
theorem Gq (w:World) (k n:Int) (s:ByteArray) (ao:Option Addr) (len cap:Nat):
 (Dj w k n s ao len cap).cell? ⟨w.heap.size,0,none⟩=some (.int .i64 k)∧(Dj w k n s ao len cap).cell? ⟨w.heap.size,1,none⟩=some (.int .i64 n)∧(Dj w k n s ao len cap).cell? ⟨w.heap.size,2,none⟩=some (.string s)∧(Dj w k n s ao len cap).cell? ⟨w.heap.size,3,none⟩=some (.slice ao len cap):=
 have h:=Bk.new (w:=w) (cs:= #[.int .i64 k, .int .i64 n, .string s, .slice ao len cap]) (t:=191) rfl
 ⟨h.get (j:=0) rfl,h.get (j:=1) rfl,h.get (j:=2) rfl,h.get (j:=3) rfl⟩
theorem Ef (w:World) (k n:Int) (s:ByteArray) (ao:Option Addr) (len cap:Nat):Below w.heap.size w (Dj w k n s ao len cap):=(Below.refl _ _).alloc (Nat.le_refl _) _
theorem drop_cons {α:Type} {l:List α} {i:Nat} {x:α} (h:l[i]?=some x):l.drop i=x::l.drop (i+1):=by
 obtain⟨h1,h2⟩:=List.getElem?_eq_some_iff.1 h
 rw [←h2];exact List.drop_eq_getElem_cons h1
mutual
def Rc:Ah→Int→Int→Bool×Int
 | .mk _ _ _ a,deep,left=> if 5 < deep∨left - 1 < 0 then(false,left - 1) else Zg a (deep+1) (left - 1)
def Zg:List Ah→Int→Int→Bool×Int
 | [],_,left=> (true,left)
 | x::l,deep,left=> if (Rc x deep left).1=true then Zg l deep (Rc x deep left).2 else(false,(Rc x deep left).2)
end
mutual
theorem Aex:∀ (e:Ah) (deep left:Int),0≤left→(Rc e deep left).2 < left∧ -1≤(Rc e deep left).2∧((Rc e deep left).1=true→0≤(Rc e deep left).2)
 | .mk k n s a,deep,left,h=> by
   unfold Rc
   split
   ·exact⟨by show left - 1 < left;omega,by show -1≤left - 1;omega,fun h=> (by cases h)⟩
   ·have:=Alj a (deep+1) (left - 1) (by omega)
    exact⟨by omega,this.2.1,this.2.2⟩
theorem Alj:∀ (l:List Ah) (deep left:Int),0≤left→(Zg l deep left).2≤left∧ -1≤(Zg l deep left).2∧((Zg l deep left).1=true→0≤(Zg l deep left).2)
 | [],deep,left,h=> by unfold Zg;exact⟨Int.le_refl _,by show -1≤left;omega,fun _=> h⟩
 | x::l,deep,left,h=> by
   have h1:=Aex x deep left h
   unfold Zg
   split
   ·rename_i hb
    have h2:=Alj l deep _ (h1.2.2 hb)
    exact⟨by omega,h2.2.1,h2.2.2⟩
   ·exact⟨by show(Rc x deep left).2≤left;omega,h1.2.1,fun h=> (by cases h)⟩
end
mutual
theorem Af1:∀ (e:Ah) (deep left:Int),0≤left→(((Rc e deep left).1=true↔(e.nodes:Int)≤left∧deep+e.deep≤6)∧((Rc e deep left).1=true→(Rc e deep left).2=left - e.nodes))
 | .mk k n s a,deep,left,h=> by
   unfold Rc Ah.nodes Ah.deep
   split
   ·rename_i hc
    refine⟨⟨fun h=> (by cases h),fun⟨h1,h2⟩=> ?_⟩,fun h=> (by cases h)⟩
    push_cast at h1 h2
    omega
   ·rename_i hc
    have:=Af2 a (deep+1) (left - 1) (by omega) (by omega)
    push_cast
    refine⟨?_,fun hb=> ?_⟩
    ·rw [this.1];constructor <;> intro h3 <;> omega
    ·rw [this.2 hb];omega
theorem Af2:∀ (l:List Ah) (deep left:Int),0≤left→deep≤6→(((Zg l deep left).1=true↔(Ah.Da l:Int)≤left∧deep+Ah.Tu l≤6)∧((Zg l deep left).1=true→(Zg l deep left).2=left - Ah.Da l))
 | [],deep,left,h,hd=> by unfold Zg Ah.Da Ah.Tu;simp;omega
 | x::l,deep,left,h,hd=> by
   have h1:=Af1 x deep left h
   have h0:=Aex x deep left h
   unfold Zg Ah.Da Ah.Tu
   split
   ·rename_i hb
    have h2:=Af2 l deep _ (h0.2.2 hb) hd
    rw [h1.2 hb] at h2 ⊢
    have h3:=h1.1.1 hb
    push_cast
    refine⟨?_,fun hb2=> ?_⟩
    ·rw [h2.1];constructor <;> intro h4 <;> omega
    ·rw [h2.2 hb2];omega
   ·rename_i hb
    refine⟨⟨fun h=> (by cases h),fun⟨h3,h4⟩=> ?_⟩,fun h=> (by cases h)⟩
    exact absurd (h1.1.2 ⟨by push_cast at h3;omega,by push_cast at h4;omega⟩) hb
end
end Go.Proofs.YtbibeionenjmfaaGreatDoor
namespace Go.Proofs.YtbibeionenjmfaaGreatDoor
open Go.RowKit Go.ChangeShapes Go.WideShapes Go.ChangeAt
set_option maxRecDepth 100000 in
set_option maxHeartbeats 2000000 in
theorem Ab2:∀ (d:Nat) (k n:Int) (s:ByteArray) (a:List Ah) (ao:Option Addr) (cap:Nat) (w0 w:World) (deep left:Int) (lb:Nat),Ip w0 d (.mk k n s a) (Mh k n s ao a.length cap)→
 Below w0.heap.size w0 w→w0.heap.size≤lb→Bk w lb [.int .i64 left]→0≤left→left≤30→0≤deep→deep≤6→
 Calls Tryz.prog 204 #[.agg #[.int .i64 k, .int .i64 n, .string s, .slice ao a.length cap], .int .i64 deep, .pointer (some ⟨lb,0,none⟩)] w fun e w'=> e= .returned (.bool (Rc (.mk k n s a) deep left).1)∧Ab (fun q=> q=lb) w w'∧Bk w' lb [.int .i64 (Rc (.mk k n s a) deep left).2]
 | 0,_,_,_,_,_,_,_,_,_,_,_,h,_,_,_,_,_,_,_=> h.elim
 | d+1,k,n,s,a,ao,cap,w0,w,deep,left,lb,h,hb,hlb,hbk,hl0,hl30,hd0,hd6=> by
   have IH:=Aa (Ab2 d)
   obtain⟨ao',cap',he,hk,hn,hs,ha,hkids⟩:=h
   obtain⟨rfl,rfl⟩:ao=ao'∧cap=cap':=by simp [Mh] at he;exact⟨he.1,he.2⟩
   clear he
   have HK:=Aa hkids
   have hlt:=hbk.lt
   have l0:=hbk.get (j:=0) rfl
   have z0:=hbk.fz 0
   have hbkS:=hbk.set (k:=0) (u:= .int .i64 left) (.int .i64 (left - 1)) rfl
   have l1:(w.setCell ⟨lb,0,none⟩ (.int .i64 (left - 1))).cell? ⟨lb,0,none⟩=some (.int .i64 (left - 1)):=hbkS.get (j:=0) rfl
   have hsz:(w.setCell ⟨lb,0,none⟩ (.int .i64 (left - 1))).heap.size=w.heap.size:=by simp [World.setCell]
   obtain⟨c0,c1,c2,c3⟩:=Gq (w.setCell ⟨lb,0,none⟩ (.int .i64 (left - 1))) k n s ao a.length cap
   rw [hsz] at c0 c1 c2 c3
   have hb1:=Ef (w.setCell ⟨lb,0,none⟩ (.int .i64 (left - 1))) k n s ao a.length cap
   have HKS:=Aa (((Ab.refl (fun q=> q=lb) w).setCell (p:=⟨lb,0,none⟩) rfl (.int .i64 (left - 1))).trans (Ab.Ai hb1 (Nat.le_refl _)))
   have HB2:=Aa (hbkS.later hb1)
   clear hkids hbk hbkS hsz hb1
   unfold maxLen at ha
   have wl:IntKind.i64.wrap (left - 1)=left - 1:=IntWalk.i64_in _ (by omega)
   by_cases h1:5 < deep
   ·have hr:Rc (.mk k n s a) deep left=(false,left - 1):=by unfold Rc;rw [if_pos (.inl h1)]
    rw [hr]
    have e1:decide (5 < deep)=true:=by simpa using h1
    go_enter Tryz.func204,Tryz.ntmps204
    go_wp2
    go_ret
    exact⟨rfl,HKS.out,HB2.out⟩
   ·have e1:decide (5 < deep)=false:=by simpa using h1
    by_cases h2:left - 1 < 0
    ·have hr:Rc (.mk k n s a) deep left=(false,left - 1):=by unfold Rc;rw [if_pos (.inr h2)]
     rw [hr]
     have e2:decide (left - 1 < 0)=true:=by simpa using h2
     go_enter Tryz.func204,Tryz.ntmps204
     go_wp2
     go_ret
     exact⟨rfl,HKS.out,HB2.out⟩
    ·have hr:Rc (.mk k n s a) deep left=Zg a (deep+1) (left - 1):=by unfold Rc;rw [if_neg (by omega)]
     rw [hr]
     have e2:decide (left - 1 < 0)=false:=by simpa using h2
     have wd:IntKind.i64.wrap (deep+1)=deep+1:=IntWalk.i64_in _ (by omega)
     generalize hsz:Zg a (deep+1) (left - 1)=sz
     have HSZ:=Aa hsz
     clear hr hsz
     go_enter Tryz.func204,Tryz.ntmps204
     go_wp2
     go_loopw [25] (fun i wr=> ∃ (j:Nat) (c:Int),j≤a.length∧i= .int .i64 j∧0≤c∧c≤30∧Hid (Zg (a.drop j) (deep+1) c=sz)∧Ab (fun q=> q=lb) w wr∧Bk wr lb [.int .i64 c]) (fun i _=> a.length - (intOf i).toNat)
     case atStart=> exact⟨0,left - 1,by omega,rfl,by omega,by omega,HSZ.out,HKS.out,HB2.out⟩
     case round=>
      obtain⟨j,c,hj,rfl,hc0,hc30,hacc,hkp,hbc⟩:=hrel
      by_cases hjl:j < a.length
      ·have hbw:Below w0.heap.size w0 wr:=hb.trans (hkp.below (fun q e=> by omega) hb.size)
       obtain⟨b,off,d',k',n',s',l',ao',cap',rfl,hbs,rfl,hx,hex,g0,g1,g2,g3⟩:=HK.out.kid hjl
       have g0:=cell_later hbw g0
       have g1:=cell_later hbw g1
       have g2:=cell_later hbw g2
       have g3:=cell_later hbw g3
       have hb2:=Ef wr k' n' s' ao' l'.length cap'
       have HX:=Aa (IH.out k' n' s' l' ao' cap' w0 (Dj wr k' n' s' ao' l'.length cap') (deep+1) c lb hex (hbw.trans (hb2.mono hbw.size)) hlb (hbc.later hb2) hc0 hc30 (by omega) (by omega))
       have hle:=Aex (.mk k' n' s' l') (deep+1) c hc0
       have hst:Hid (sz=if (Rc (.mk k' n' s' l') (deep+1) c).1=true then Zg (a.drop (j+1)) (deep+1) (Rc (.mk k' n' s' l') (deep+1) c).2 else(false,(Rc (.mk k' n' s' l') (deep+1) c).2)):=by
        show _=_
        rw [←hacc.out,drop_cons hx,Zg]
       have HKP:=Aa (hkp.trans (Ab.Ai hb2 (Nat.le_refl _)))
       generalize Rc (.mk k' n' s' l') (deep+1) c=q at *
       obtain⟨q1,q2⟩:=q
       dsimp only at hle
       have HLE:=Aa hle
       have f1:(0:Int)≤(j:Int)∧(j:Int) < (a.length:Int):=by omega
       obtain⟨f1,f2⟩:=f1
       clear hx hex hb2 hle hbc hkp hacc
       go_wp2_with fail
       refine HX.out.mono ?_
       rintro e w2 ⟨rfl,k2,bk2⟩
       have HK2:=Aa (HKP.out.trans k2)
       have HBK:=Aa bk2
       clear HX k2 bk2
       cases q1
       ·go_wp2
        go_ret
        exact⟨J1 (by rw [hst.out];rfl),HK2.out,by rw [hst.out];exact HBK.out⟩
       ·go_wp2
        go_roundw
        case rel=> exact⟨j+1,q2,by omega,by go_num,HLE.out.2.2 (by first | trivial | rfl),by have:=HLE.out.1;omega,by rw [hst.out];rfl,HK2.out,HBK.out⟩
        case measure=> (simp [intOf];try omega)
      ·have hr:sz=(true,c):=by rw [←hacc.out,List.drop_eq_nil_of_le (by omega)];simp [Zg]
       have HR:=Aa hr
       have HKP:=Aa hkp
       have HBC:=Aa hbc
       clear hr hkp hbc
       go_wp2
       go_ret
       exact⟨J1 (by rw [HR.out]),HKP.out,by rw [HR.out];exact HBC.out⟩
theorem Ah5 (e:Ah):1≤e.nodes:=by cases e;unfold Ah.nodes;omega
end Go.Proofs.YtbibeionenjmfaaGreatDoor
