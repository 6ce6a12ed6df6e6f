/- Expressions: expr.size and ref.parts are walked. -/
import Derived.Test.YtbibeionenjmfaaGreatDoorExpr2
set_option linter.unusedSimpArgs false
set_option linter.unusedVariables false
namespace Go.Proofs.YtbibeionenjmfaaGreatDoor
open Go.RowKit Go.ChangeShapes Go.WideShapes Go.ChangeAt
set_option maxRecDepth 100000 in
set_option maxHeartbeats 2000000 in
theorem Za:∀ (d:Nat) (k n:Int) (s:ByteArray) (a:List Af) (ao:Option Addr) (cap:Nat) (w0 w:World) (deep left:Int) (lb:Nat),Ir w0 d (.mk k n s a) (L3 k n s ao a.length cap)→
 Below w0.heap.size w0 w→w0.heap.size≤lb→Bk w lb [.int .i64 left]→0≤left→left≤30→0≤deep→deep≤6→
 Calls Tryz.prog 204 #[.agg #[.int .i64 k, .int .i64 n, .string s, .slice ao a.length cap], .int .i64 deep, .pointer (some ⟨lb,0,none⟩)] w fun e w'=> e= .returned (.bool (Qp (.mk k n s a) deep left).1)∧Ab (fun q=> q=lb) w w'∧Bk w' lb [.int .i64 (Qp (.mk k n s a) deep left).2]
 | 0,_,_,_,_,_,_,_,_,_,_,_,h,_,_,_,_,_,_,_=> h.elim
 | d+1,k,n,s,a,ao,cap,w0,w,deep,left,lb,h,hb,hlb,hbk,hl0,hl30,hd0,hd6=> by
   have IH:=Aa (Za d)
   obtain⟨ao',cap',he,hk,hn,hs,ha,hkids⟩:=h
   obtain⟨rfl,rfl⟩:ao=ao'∧cap=cap':=by simp [L3] at he;exact⟨he.1,he.2⟩
   clear he
   have HK:=Aa hkids
   have hlt:=hbk.lt
   have l0:=hbk.get (j:=0) rfl
   have z0:=hbk.fz 0
   have hbkS:=hbk.set (k:=0) (u:= .int .i64 left) (.int .i64 (left - 1)) rfl
   have l1:(w.setCell ⟨lb,0,none⟩ (.int .i64 (left - 1))).cell? ⟨lb,0,none⟩=some (.int .i64 (left - 1)):=hbkS.get (j:=0) rfl
   have hsz:(w.setCell ⟨lb,0,none⟩ (.int .i64 (left - 1))).heap.size=w.heap.size:=by simp [World.setCell]
   obtain⟨c0,c1,c2,c3⟩:=Gr (w.setCell ⟨lb,0,none⟩ (.int .i64 (left - 1))) k n s ao a.length cap
   rw [hsz] at c0 c1 c2 c3
   have hb1:=D8 (w.setCell ⟨lb,0,none⟩ (.int .i64 (left - 1))) k n s ao a.length cap
   have HKS:=Aa (((Ab.refl (fun q=> q=lb) w).setCell (p:=⟨lb,0,none⟩) rfl (.int .i64 (left - 1))).trans (Ab.Ag hb1 (Nat.le_refl _)))
   have HB2:=Aa (hbkS.later hb1)
   clear hkids hbk hbkS hsz hb1
   unfold maxLen at ha
   have wl:IntKind.i64.wrap (left - 1)=left - 1:=IntWalk.i64_in _ (by omega)
   by_cases h1:5 < deep
   ·have hr:Qp (.mk k n s a) deep left=(false,left - 1):=by unfold Qp;rw [if_pos (.inl h1)]
    rw [hr]
    have e1:decide (5 < deep)=true:=by simpa using h1
    go_enter Tryz.func204,Tryz.ntmps204
    go_wp2
    go_ret
    exact⟨rfl,HKS.out,HB2.out⟩
   ·have e1:decide (5 < deep)=false:=by simpa using h1
    by_cases h2:left - 1 < 0
    ·have hr:Qp (.mk k n s a) deep left=(false,left - 1):=by unfold Qp;rw [if_pos (.inr h2)]
     rw [hr]
     have e2:decide (left - 1 < 0)=true:=by simpa using h2
     go_enter Tryz.func204,Tryz.ntmps204
     go_wp2
     go_ret
     exact⟨rfl,HKS.out,HB2.out⟩
    ·have hr:Qp (.mk k n s a) deep left=Xr a (deep+1) (left - 1):=by unfold Qp;rw [if_neg (by omega)]
     rw [hr]
     have e2:decide (left - 1 < 0)=false:=by simpa using h2
     have wd:IntKind.i64.wrap (deep+1)=deep+1:=IntWalk.i64_in _ (by omega)
     generalize hsz:Xr a (deep+1) (left - 1)=sz
     have HSZ:=Aa hsz
     clear hr hsz
     go_enter Tryz.func204,Tryz.ntmps204
     go_wp2
     go_loopw [25] (fun i wr=> ∃ (j:Nat) (c:Int),j≤a.length∧i= .int .i64 j∧0≤c∧c≤30∧Hid (Xr (a.drop j) (deep+1) c=sz)∧Ab (fun q=> q=lb) w wr∧Bk wr lb [.int .i64 c]) (fun i _=> a.length - (intOf i).toNat)
     case atStart=> exact⟨0,left - 1,by omega,rfl,by omega,by omega,HSZ.out,HKS.out,HB2.out⟩
     case round=>
      obtain⟨j,c,hj,rfl,hc0,hc30,hacc,hkp,hbc⟩:=hrel
      by_cases hjl:j < a.length
      ·have hbw:Below w0.heap.size w0 wr:=hb.trans (hkp.below (fun q e=> by omega) hb.size)
       obtain⟨b,off,d',k',n',s',l',ao',cap',rfl,hbs,rfl,hx,hex,g0,g1,g2,g3⟩:=HK.out.kid hjl
       have g0:=cell_later hbw g0
       have g1:=cell_later hbw g1
       have g2:=cell_later hbw g2
       have g3:=cell_later hbw g3
       have hb2:=D8 wr k' n' s' ao' l'.length cap'
       have HX:=Aa (IH.out k' n' s' l' ao' cap' w0 (Df wr k' n' s' ao' l'.length cap') (deep+1) c lb hex (hbw.trans (hb2.mono hbw.size)) hlb (hbc.later hb2) hc0 hc30 (by omega) (by omega))
       have hle:=Ac7 (.mk k' n' s' l') (deep+1) c hc0
       have hst:Hid (sz=if (Qp (.mk k' n' s' l') (deep+1) c).1=true then Xr (a.drop (j+1)) (deep+1) (Qp (.mk k' n' s' l') (deep+1) c).2 else(false,(Qp (.mk k' n' s' l') (deep+1) c).2)):=by
        show _=_
        rw [←hacc.out,drop_cons hx,Xr]
       have HKP:=Aa (hkp.trans (Ab.Ag hb2 (Nat.le_refl _)))
       generalize Qp (.mk k' n' s' l') (deep+1) c=q at *
       obtain⟨q1,q2⟩:=q
       dsimp only at hle
       have HLE:=Aa hle
       have f1:(0:Int)≤(j:Int)∧(j:Int) < (a.length:Int):=by omega
       obtain⟨f1,f2⟩:=f1
       clear hx hex hb2 hle hbc hkp hacc
       go_wp2_with fail
       refine HX.out.mono ?_
       rintro e w2 ⟨rfl,k2,bk2⟩
       have HK2:=Aa (HKP.out.trans k2)
       have HBK:=Aa bk2
       clear HX k2 bk2
       cases q1
       ·go_wp2
        go_ret
        exact⟨Js (by rw [hst.out];rfl),HK2.out,by rw [hst.out];exact HBK.out⟩
       ·go_wp2
        go_roundw
        case rel=> exact⟨j+1,q2,by omega,by go_num,HLE.out.2.2 (by first | trivial | rfl),by have:=HLE.out.1;omega,by rw [hst.out];rfl,HK2.out,HBK.out⟩
        case measure=> (simp [intOf];try omega)
      ·have hr:sz=(true,c):=by rw [←hacc.out,List.drop_eq_nil_of_le (by omega)];simp [Xr]
       have HR:=Aa hr
       have HKP:=Aa hkp
       have HBC:=Aa hbc
       clear hr hkp hbc
       go_wp2
       go_ret
       exact⟨Js (by rw [HR.out]),HKP.out,by rw [HR.out];exact HBC.out⟩
theorem Aho (e:Af):1≤e.nodes:=by cases e;unfold Af.nodes;omega
end Go.Proofs.YtbibeionenjmfaaGreatDoor
