/- Jobs: job.Check. -/
import Derived.Test.YtbibeionenjmfaaGreatDoorZExpr11
import Derived.Test.YtbibeionenjmfaaGreatDoorZMerge
set_option linter.unusedSimpArgs false
set_option linter.unusedVariables false
namespace Go.Proofs.YtbibeionenjmfaaGreatDoor
open Go.RowKit Go.ChangeShapes Go.WideShapes Go.ChangeAt
structure Gy where
 k:Int
 n:Int
 s:ByteArray
 ao:Option Addr
 cap:Nat
 a:List Ah
def Gy.tree (e:Gy):Ah:= .mk e.k e.n e.s e.a
def Gy.cells (e:Gy):List Value:=Mh e.k e.n e.s e.ao e.a.length e.cap
def Gy.agg (e:Gy):Value:= .agg #[.int .i64 e.k, .int .i64 e.n, .string e.s, .slice e.ao e.a.length e.cap]
structure Ao where
 each:Bool
 Bc:Int
 cond:Gy
 C1:ByteArray
 key:Gy
 val:Gy
instance:Inhabited Gy:=⟨⟨0,0,⟨#[]⟩,none,0, []⟩⟩
instance:Inhabited Ao:=⟨⟨false,0,default,⟨#[]⟩,default,default⟩⟩
def Ao.v (r:Ao):Aw:=⟨r.each,r.Bc,r.cond.tree,r.C1,r.key.tree,r.val.tree⟩
def A6 (r:Ao):List Value:= [.bool r.each, .int .i64 r.Bc, .int .i64 r.cond.k, .int .i64 r.cond.n, .string r.cond.s, .slice r.cond.ao r.cond.a.length r.cond.cap, .string r.C1,
 .int .i64 r.key.k, .int .i64 r.key.n, .string r.key.s, .slice r.key.ao r.key.a.length r.key.cap, .int .i64 r.val.k, .int .i64 r.val.n, .string r.val.s, .slice r.val.ao r.val.a.length r.val.cap]
theorem Rn (r:Ao):(A6 r).length=15:=rfl
def Ao.agg (r:Ao):Value:= .agg #[.bool r.each, .int .i64 r.Bc, .int .i64 r.cond.k, .int .i64 r.cond.n, .string r.cond.s, .slice r.cond.ao r.cond.a.length r.cond.cap, .string r.C1,
 .int .i64 r.key.k, .int .i64 r.key.n, .string r.key.s, .slice r.key.ao r.key.a.length r.key.cap, .int .i64 r.val.k, .int .i64 r.val.n, .string r.val.s, .slice r.val.ao r.val.a.length r.val.cap]
structure Ka (w:World) (d:Nat) (r:Ao):Prop where
 cond:Ip w d r.cond.tree r.cond.cells
 key:Ip w d r.key.tree r.key.cells
 val:Ip w d r.val.tree r.val.cells
 C1:r.C1.size≤maxLen
theorem Ka.later {w w':World} {d:Nat} {r:Ao} {B:Nat} (h:Ka w d r) (hb:Below B w w') (hB:w.heap.size≤B):Ka w' d r:=
 ⟨h.cond.later hb hB,h.key.later hb hB,h.val.later hb hB,h.C1⟩
end Go.Proofs.YtbibeionenjmfaaGreatDoor
namespace Go.Proofs.YtbibeionenjmfaaGreatDoor
open Go.RowKit
theorem Db {r:Aw} (h:C6 r≠0):Cj r=C6 r:=if_pos h
theorem Q1 {r:Aw} (h:C6 r=0) (hk:C2 r.key true r.each≠0):Cj r=C2 r.key true r.each:=by
 unfold Cj;rw [if_neg (by rw [h];simp),if_pos hk]
theorem Q2 {r:Aw} (h:C6 r=0) (hk:C2 r.key true r.each=0):Cj r=C2 r.val false r.each:=by
 unfold Cj;rw [if_neg (by rw [h];simp),if_neg (by rw [hk];simp)]
theorem Amg {r:Aw} (h:r.Bc=0):C6 r=if r.C1.toList.isEmpty=true∧Tp r.cond=true then 0 else 3:=if_pos h
theorem Aju {r:Aw} (h:r.Bc=1∨r.Bc=2):C6 r=if r.C1.size≤20∧decide (0≤Lib.indexByte r.C1.data.toList 10)=false then C2 r.cond true r.each else 3:=by
 unfold C6;rw [if_neg (by omega),if_pos h]
theorem Ajv {r:Aw} (h:¬ r.Bc=0) (h1:¬ (r.Bc=1∨r.Bc=2)):C6 r=3:=by
 unfold C6;rw [if_neg h,if_neg h1]
set_option maxRecDepth 100000 in
set_option maxHeartbeats 4000000 in
theorem Alb (r:Ao) (d:Nat) (w:World) (h:Ka w d r):
 Calls Tryz.prog 154 #[r.agg] w fun e w'=> e= .returned (Du (Cj r.v))∧Below w.heap.size w w':=by
 obtain⟨each,wh,⟨ck,cn,cs,cao,ccap,ca⟩,C1,⟨kk,kn,ks,kao,kcap,ka⟩,⟨vk,vn,vs,vao,vcap,va⟩⟩:=r
 obtain⟨hc,hk,hv,ht⟩:=h
 unfold Gy.tree Gy.cells at hc hk hv
 dsimp only at hc hk hv ht
 obtain⟨W,hW⟩:∃ W,W=w.alloc (.cells #[.bool each, .int .i64 wh, .int .i64 ck, .int .i64 cn, .string cs, .slice cao ca.length ccap, .string C1, .int .i64 kk, .int .i64 kn, .string ks, .slice kao ka.length kcap, .int .i64 vk, .int .i64 vn, .string vs, .slice vao va.length vcap] 193):=⟨_,rfl⟩
 have hb0:Below w.heap.size w W:=by rw [hW];exact(Below.refl _ _).alloc (Nat.le_refl _) _
 have hbk:Bk W w.heap.size [.bool each, .int .i64 wh, .int .i64 ck, .int .i64 cn, .string cs, .slice cao ca.length ccap, .string C1, .int .i64 kk, .int .i64 kn, .string ks, .slice kao ka.length kcap, .int .i64 vk, .int .i64 vn, .string vs, .slice vao va.length vcap]:=by rw [hW];exact Bk.new rfl
 have c0:=hbk.get (j:=0) rfl
 have c1:=hbk.get (j:=1) rfl
 have c2:=hbk.get (j:=2) rfl
 have c3:=hbk.get (j:=3) rfl
 have c4:=hbk.get (j:=4) rfl
 have c5:=hbk.get (j:=5) rfl
 have c6:=hbk.get (j:=6) rfl
 have c7:=hbk.get (j:=7) rfl
 have c8:=hbk.get (j:=8) rfl
 have c9:=hbk.get (j:=9) rfl
 have c10:=hbk.get (j:=10) rfl
 have c11:=hbk.get (j:=11) rfl
 have c12:=hbk.get (j:=12) rfl
 have c13:=hbk.get (j:=13) rfl
 have c14:=hbk.get (j:=14) rfl
 have HCC:=Aa fun w' (hb:Below w.heap.size w w')=> Qa d ck cn cs ca cao ccap w' true each (hc.later hb (Nat.le_refl _))
 have HKC:=Aa fun w' (hb:Below w.heap.size w w')=> Qa d kk kn ks ka kao kcap w' true each (hk.later hb (Nat.le_refl _))
 have HVC:=Aa fun w' (hb:Below w.heap.size w w')=> Qa d vk vn vs va vao vcap w' false each (hv.later hb (Nat.le_refl _))
 have HB:=Aa hb0
 obtain⟨R,hR⟩:∃ R:Aw,R=⟨each,wh, .mk ck cn cs ca,C1, .mk kk kn ks ka, .mk vk vn vs va⟩:=⟨_,rfl⟩
 have HFC:Hid (C2 R.cond true R.each=C2 (.mk ck cn cs ca) true each):=by rw [hR];rfl
 have HFK:Hid (C2 R.key true R.each=C2 (.mk kk kn ks ka) true each):=by rw [hR];rfl
 have HFV:Hid (C2 R.val false R.each=C2 (.mk vk vn vs va) false each):=by rw [hR];rfl
 have HRW:Hid (R.Bc=wh):=by rw [hR];rfl
 have HRT:Hid (R.C1=C1):=by rw [hR];rfl
 have HRB:Hid (Tp R.cond=((ck ==0) && ((cn ==0) && (cs.toList.isEmpty && ca.isEmpty)))):=by rw [hR];rfl
 rw [show Ao.v ⟨each,wh,⟨ck,cn,cs,cao,ccap,ca⟩,C1,⟨kk,kn,ks,kao,kcap,ka⟩,⟨vk,vn,vs,vao,vcap,va⟩⟩=R from hR.symm]
 generalize C2 (.mk ck cn cs ca) true each=fc at *
 generalize C2 (.mk kk kn ks ka) true each=fk at *
 generalize C2 (.mk vk vn vs va) false each=fv at *
 have HWW:=Aa hW
 clear hR hc hk hv hb0 hbk hW
 unfold maxLen at ht
 show Calls Tryz.prog 154 #[.agg #[.bool each, .int .i64 wh, .int .i64 ck, .int .i64 cn, .string cs, .slice cao ca.length ccap, .string C1, .int .i64 kk, .int .i64 kn, .string ks, .slice kao ka.length kcap, .int .i64 vk, .int .i64 vn, .string vs, .slice vao va.length vcap]] w _
 go_enter Tryz.func154,Tryz.ntmps154
 go_upto_region 1 with (fail)
 rw [←HWW.out]
 clear HWW
 by_cases hw0:wh=0
 ·have HC0:Hid (C6 R=if C1.toList.isEmpty=true∧((ck ==0) && ((cn ==0) && (cs.toList.isEmpty && ca.isEmpty)))=true then 0 else 3):=by
   show _=_
   rw [Amg (by rw [HRW.out];exact hw0),HRT.out,HRB.out]
  have g1:(wh ==0)=true:=by simpa using hw0
  clear hw0 HFC HCC HRW HRT HRB
  obtain⟨te,hte⟩:∃ te,C1.toList.isEmpty=te:=⟨_,rfl⟩
  cases te
  ·have HC3:Hid (C6 R=3):=by show _=_;rw [HC0.out,hte];rfl
   have HT:Hid (Cj R=3):=by show _=_;rw [Db (by rw [HC3.out];decide),HC3.out]
   go_wp2
   go_ret
   exact⟨by rw [HT.out];rfl,HB.out⟩
  by_cases hck:ck=0
  case neg=>
   have HC3:Hid (C6 R=3):=by
    show _=_
    rw [HC0.out,show(ck ==0)=false from beq_eq_false_iff_ne.2 hck];simp
   have g4:(ck !=0)=true:=by simpa using hck
   have HT:Hid (Cj R=3):=by show _=_;rw [Db (by rw [HC3.out];decide),HC3.out]
   go_wp2
   go_ret
   exact⟨by rw [HT.out];rfl,HB.out⟩
  have hke:(ck ==0)=true:=by simpa using hck
  have g5:(ck !=0)=false:=by simpa using hck
  by_cases hcn:cn=0
  case neg=>
   have HC3:Hid (C6 R=3):=by
    show _=_
    rw [HC0.out,show(cn ==0)=false from beq_eq_false_iff_ne.2 hcn];simp
   have g4:(cn !=0)=true:=by simpa using hcn
   have HT:Hid (Cj R=3):=by show _=_;rw [Db (by rw [HC3.out];decide),HC3.out]
   go_wp2
   go_ret
   exact⟨by rw [HT.out];rfl,HB.out⟩
  have hne:(cn ==0)=true:=by simpa using hcn
  have g6:(cn !=0)=false:=by simpa using hcn
  obtain⟨se,hse⟩:∃ se,cs.toList.isEmpty=se:=⟨_,rfl⟩
  cases se
  ·have HC3:Hid (C6 R=3):=by show _=_;rw [HC0.out,hse];simp
   have HT:Hid (Cj R=3):=by show _=_;rw [Db (by rw [HC3.out];decide),HC3.out]
   go_wp2
   go_ret
   exact⟨by rw [HT.out];rfl,HB.out⟩
  by_cases hca:0 < ca.length
  ·have HC3:Hid (C6 R=3):=by
    show _=_
    rw [HC0.out]
    cases ca with
    | nil=> simp at hca
    | cons a l=> simp
   have g2:decide (0 < ca.length)=true:=by simpa using hca
   have g3:decide ((0:Int) < (ca.length:Int))=true:=by simp;omega
   have HT:Hid (Cj R=3):=by show _=_;rw [Db (by rw [HC3.out];decide),HC3.out]
   go_wp2
   go_ret
   exact⟨by rw [HT.out];rfl,HB.out⟩
  have HCF:Hid (C6 R=0):=by
   show _=_
   rw [HC0.out,hte,hke,hne,hse]
   obtain rfl:ca= []:=List.length_eq_zero_iff.1 (by omega)
   rfl
  have g2:decide (0 < ca.length)=false:=by simpa using hca
  have g3:decide ((0:Int) < (ca.length:Int))=false:=by rw [decide_eq_false_iff_not];omega
  clear HC0 hca hck hcn hke hne
  go_wp2_with fail
  refine(HKC.out _ HB.out).mono ?_
  rintro e w5 ⟨rfl,b5⟩
  replace c0:=cell_later b5 c0
  replace c11:=cell_later b5 c11
  replace c12:=cell_later b5 c12
  replace c13:=cell_later b5 c13
  replace c14:=cell_later b5 c14
  replace HB:=Aa (HB.out.trans (b5.mono HB.out.size))
  clear b5 HKC
  by_cases hfk:fk=0
  ·have HT:Hid (Cj R=fv):=by
    show _=_
    rw [←HFV.out]
    exact Q2 HCF.out (by rw [HFK.out];exact hfk)
   rw [hfk,A3]
   clear HFK HFV hfk
   go_wp2_with fail
   refine(HVC.out _ HB.out).mono ?_
   rintro e w6 ⟨rfl,b6⟩
   replace HB:=Aa (HB.out.trans (b6.mono HB.out.size))
   clear b6 HVC
   go_wp2
   go_ret
   exact⟨by rw [HT.out];rfl,HB.out⟩
  ·have HT:Hid (Cj R=fk):=by
    show _=_
    rw [←HFK.out]
    exact Q1 HCF.out (by rw [HFK.out];exact hfk)
   rw [Ar hfk]
   have HFE:=Aa (Ar hfk)
   clear HFK HFV hfk HVC
   go_wp2
   go_ret
   exact⟨by rw [HT.out,HFE.out];rfl,HB.out⟩
 ·have g1:(wh ==0)=false:=by simpa using hw0
  by_cases hw1:wh=1∨wh=2
  ·have HC0:Hid (C6 R=if C1.size≤20∧decide (0≤Lib.indexByte C1.data.toList 10)=false then fc else 3):=by
    show _=_
    rw [Aju (by rw [HRW.out];exact hw1),HRT.out,HFC.out]
   clear hw0 HFC HRW HRT HRB
   by_cases ht20:20 < C1.size
   ·have HC3:Hid (C6 R=3):=by show _=_;rw [HC0.out,if_neg (by omega)]
    have g4:decide ((20:Int) < (C1.size:Int))=true:=by simp;omega
    rcases hw1 with h1 | h1
    ·have g2:(wh ==1)=true:=by rw [h1];rfl
     clear h1
     have HT:Hid (Cj R=3):=by show _=_;rw [Db (by rw [HC3.out];decide),HC3.out]
     go_wp2
     go_ret
     exact⟨by rw [HT.out];rfl,HB.out⟩
    ·have g2:(wh ==1)=false:=by rw [h1];rfl
     have g3:(wh ==2)=true:=by rw [h1];rfl
     clear h1
     have HT:Hid (Cj R=3):=by show _=_;rw [Db (by rw [HC3.out];decide),HC3.out]
     go_wp2
     go_ret
     exact⟨by rw [HT.out];rfl,HB.out⟩
   have g4:decide ((20:Int) < (C1.size:Int))=false:=by simp;omega
   have HST:=Aa fun w'=> Tryz.strings_Contains_one C1 10 w'
   obtain⟨io,hio⟩:∃ io,decide (0≤Lib.indexByte C1.data.toList 10)=io:=⟨_,rfl⟩
   rw [hio] at HC0
   simp only [hio] at HST
   clear hio
   rcases hw1 with h1 | h1
   ·have g2:(wh ==1)=true:=by rw [h1];rfl
    clear h1
    go_wp2_with fail
    refine(HST.out _).mono ?_
    rintro e w3 ⟨rfl,rfl⟩
    clear HST
    cases io
    ·have HCE:Hid (C6 R=fc):=by show _=_;rw [HC0.out,if_pos ⟨Nat.le_of_not_lt ht20,rfl⟩]
     clear HC0
     go_wp2_with fail
     refine(HCC.out _ HB.out).mono ?_
     rintro e w4 ⟨rfl,b4⟩
     replace c0:=cell_later b4 c0
     replace c7:=cell_later b4 c7
     replace c8:=cell_later b4 c8
     replace c9:=cell_later b4 c9
     replace c10:=cell_later b4 c10
     replace c11:=cell_later b4 c11
     replace c12:=cell_later b4 c12
     replace c13:=cell_later b4 c13
     replace c14:=cell_later b4 c14
     replace HB:=Aa (HB.out.trans (b4.mono HB.out.size))
     clear b4 HCC
     by_cases hfc:fc=0
     ·have HCF:Hid (C6 R=0):=by show _=_;rw [HCE.out];exact hfc
      rw [hfc,A3]
      clear HCE hfc
      go_wp2_with fail
      refine(HKC.out _ HB.out).mono ?_
      rintro e w5 ⟨rfl,b5⟩
      replace c0:=cell_later b5 c0
      replace c11:=cell_later b5 c11
      replace c12:=cell_later b5 c12
      replace c13:=cell_later b5 c13
      replace c14:=cell_later b5 c14
      replace HB:=Aa (HB.out.trans (b5.mono HB.out.size))
      clear b5 HKC
      by_cases hfk:fk=0
      ·have HT:Hid (Cj R=fv):=by
        show _=_
        rw [←HFV.out]
        exact Q2 HCF.out (by rw [HFK.out];exact hfk)
       rw [hfk,A3]
       clear HFK HFV hfk
       go_wp2_with fail
       refine(HVC.out _ HB.out).mono ?_
       rintro e w6 ⟨rfl,b6⟩
       replace HB:=Aa (HB.out.trans (b6.mono HB.out.size))
       clear b6 HVC
       go_wp2
       go_ret
       exact⟨by rw [HT.out];rfl,HB.out⟩
      ·have HT:Hid (Cj R=fk):=by
        show _=_
        rw [←HFK.out]
        exact Q1 HCF.out (by rw [HFK.out];exact hfk)
       rw [Ar hfk]
       have HFE:=Aa (Ar hfk)
       clear HFK HFV hfk HVC
       go_wp2
       go_ret
       exact⟨by rw [HT.out,HFE.out];rfl,HB.out⟩
     ·have HT:Hid (Cj R=fc):=by show _=_;rw [Db (by rw [HCE.out];exact hfc),HCE.out]
      rw [Ar hfc]
      have HFE:=Aa (Ar hfc)
      clear HCE HFK HFV hfc HVC HKC
      go_wp2
      go_ret
      exact⟨by rw [HT.out,HFE.out];rfl,HB.out⟩
    ·have HC3:Hid (C6 R=3):=by show _=_;rw [HC0.out,if_neg (by simp)]
     have HT:Hid (Cj R=3):=by show _=_;rw [Db (by rw [HC3.out];decide),HC3.out]
     go_wp2
     go_ret
     exact⟨by rw [HT.out];rfl,HB.out⟩
   ·have g2:(wh ==1)=false:=by rw [h1];rfl
    have g3:(wh ==2)=true:=by rw [h1];rfl
    clear h1
    go_wp2_with fail
    refine(HST.out _).mono ?_
    rintro e w3 ⟨rfl,rfl⟩
    clear HST
    cases io
    ·have HCE:Hid (C6 R=fc):=by show _=_;rw [HC0.out,if_pos ⟨Nat.le_of_not_lt ht20,rfl⟩]
     clear HC0
     go_wp2_with fail
     refine(HCC.out _ HB.out).mono ?_
     rintro e w4 ⟨rfl,b4⟩
     replace c0:=cell_later b4 c0
     replace c7:=cell_later b4 c7
     replace c8:=cell_later b4 c8
     replace c9:=cell_later b4 c9
     replace c10:=cell_later b4 c10
     replace c11:=cell_later b4 c11
     replace c12:=cell_later b4 c12
     replace c13:=cell_later b4 c13
     replace c14:=cell_later b4 c14
     replace HB:=Aa (HB.out.trans (b4.mono HB.out.size))
     clear b4 HCC
     by_cases hfc:fc=0
     ·have HCF:Hid (C6 R=0):=by show _=_;rw [HCE.out];exact hfc
      rw [hfc,A3]
      clear HCE hfc
      go_wp2_with fail
      refine(HKC.out _ HB.out).mono ?_
      rintro e w5 ⟨rfl,b5⟩
      replace c0:=cell_later b5 c0
      replace c11:=cell_later b5 c11
      replace c12:=cell_later b5 c12
      replace c13:=cell_later b5 c13
      replace c14:=cell_later b5 c14
      replace HB:=Aa (HB.out.trans (b5.mono HB.out.size))
      clear b5 HKC
      by_cases hfk:fk=0
      ·have HT:Hid (Cj R=fv):=by
        show _=_
        rw [←HFV.out]
        exact Q2 HCF.out (by rw [HFK.out];exact hfk)
       rw [hfk,A3]
       clear HFK HFV hfk
       go_wp2_with fail
       refine(HVC.out _ HB.out).mono ?_
       rintro e w6 ⟨rfl,b6⟩
       replace HB:=Aa (HB.out.trans (b6.mono HB.out.size))
       clear b6 HVC
       go_wp2
       go_ret
       exact⟨by rw [HT.out];rfl,HB.out⟩
      ·have HT:Hid (Cj R=fk):=by
        show _=_
        rw [←HFK.out]
        exact Q1 HCF.out (by rw [HFK.out];exact hfk)
       rw [Ar hfk]
       have HFE:=Aa (Ar hfk)
       clear HFK HFV hfk HVC
       go_wp2
       go_ret
       exact⟨by rw [HT.out,HFE.out];rfl,HB.out⟩
     ·have HT:Hid (Cj R=fc):=by show _=_;rw [Db (by rw [HCE.out];exact hfc),HCE.out]
      rw [Ar hfc]
      have HFE:=Aa (Ar hfc)
      clear HCE HFK HFV hfc HVC HKC
      go_wp2
      go_ret
      exact⟨by rw [HT.out,HFE.out];rfl,HB.out⟩
    ·have HC3:Hid (C6 R=3):=by show _=_;rw [HC0.out,if_neg (by simp)]
     have HT:Hid (Cj R=3):=by show _=_;rw [Db (by rw [HC3.out];decide),HC3.out]
     go_wp2
     go_ret
     exact⟨by rw [HT.out];rfl,HB.out⟩
  ·have HC3:Hid (C6 R=3):=Ajv (by rw [HRW.out];exact hw0) (by rw [HRW.out];exact hw1)
   have g2:(wh ==1)=false:=by rw [beq_eq_false_iff_ne];omega
   have g3:(wh ==2)=false:=by rw [beq_eq_false_iff_ne];omega
   clear hw0 hw1
   have HT:Hid (Cj R=3):=by show _=_;rw [Db (by rw [HC3.out];decide),HC3.out]
   go_wp2
   go_ret
   exact⟨by rw [HT.out];rfl,HB.out⟩
end Go.Proofs.YtbibeionenjmfaaGreatDoor
namespace Go.Proofs.YtbibeionenjmfaaGreatDoor
open Go.RowKit
theorem Sl.Y9 {w:World} {ao:Option Addr} {l:List Ao} (h:Sl 15 A6 w ao l) {k:Nat} (hk:k < l.length):
 ∃ b off r,ao=some ⟨b,off,none⟩∧b < w.heap.size∧l[k]?=some r∧∀ (j:Nat) u,(A6 r)[j]?=some u→w.cell? ⟨b,off+k * 15+j,none⟩=some u:=by
 obtain⟨b,off,e,hlt,hc⟩:=h (by omega)
 have hx:l[k]?=some l[k]:=by simp [hk]
 exact⟨b,off,l[k],e,hlt,hx,fun j u hj=> hc k _ j u hx hj⟩
theorem Xc {rs:List Aw} {fold slices:Int} (h:rs.length < 1∨4 < rs.length):Dv rs fold slices=2:=if_pos h
theorem Xb {rs:List Aw} {fold slices:Int} (h:¬ (rs.length < 1∨4 < rs.length)) (h2:fold < 1∨4 < fold):Dv rs fold slices=3:=by unfold Dv;rw [if_neg h,if_pos h2]
theorem Ru {rs:List Aw} {fold slices:Int} (h:¬ (rs.length < 1∨4 < rs.length)) (h2:¬ (fold < 1∨4 < fold)) (h3:slices < 1∨4 < slices):Dv rs fold slices=1:=by unfold Dv;rw [if_neg h,if_neg h2,if_pos h3]
theorem Adp {rs:List Aw} {fold slices:Int} (h:¬ (rs.length < 1∨4 < rs.length)) (h2:¬ (fold < 1∨4 < fold)) (h3:¬ (slices < 1∨4 < slices)):Dv rs fold slices=Ii rs:=by unfold Dv;rw [if_neg h,if_neg h2,if_neg h3]
set_option maxRecDepth 100000 in
set_option maxHeartbeats 4000000 in
theorem Pf (ro:Option Addr) (rc:Nat) (rs:List Ao) (fold slices:Int) (early:Bool) (w:World) (hl:rs.length≤maxLen) (hs:Sl 15 A6 w ro rs) (hr:∀ r∈rs,∃ d,Ka w d r):
 Calls Tryz.prog 116 #[.agg #[.slice ro rs.length rc, .int .i64 fold, .bool early, .int .i64 slices]] w fun e w'=> e= .returned (Du (Dv (rs.map Ao.v) fold slices))∧Below w.heap.size w w':=by
 obtain⟨W,hW⟩:∃ W,W=w.alloc (.cells #[.slice ro rs.length rc, .int .i64 fold, .bool early, .int .i64 slices] 96):=⟨_,rfl⟩
 have hb0:Below w.heap.size w W:=by rw [hW];exact(Below.refl _ _).alloc (Nat.le_refl _) _
 have hbk:Bk W w.heap.size [.slice ro rs.length rc, .int .i64 fold, .bool early, .int .i64 slices]:=by rw [hW];exact Bk.new rfl
 have c0:=hbk.get (j:=0) rfl
 have c1:=hbk.get (j:=1) rfl
 have c2:=hbk.get (j:=2) rfl
 have c3:=hbk.get (j:=3) rfl
 have HS:=Aa hs
 have HR:=Aa hr
 have HB:=Aa hb0
 have HWW:=Aa hW
 obtain⟨Q,hQ⟩:∃ Q,rs.map Ao.v=Q:=⟨_,rfl⟩
 have hQl:Q.length=rs.length:=by rw [←hQ,List.length_map]
 have HQ:Hid (∀ (i:Nat) r,rs[i]?=some r→Q[i]?=some r.v):=fun i r h=> by rw [←hQ,List.getElem?_map,h];rfl
 rw [hQ]
 unfold maxLen at hl
 clear hs hr hb0 hbk hW hQ
 go_enter Tryz.func116,Tryz.ntmps116
 go_upto_region 1 with (fail)
 rw [←HWW.out]
 clear HWW
 by_cases h1:rs.length < 1
 ·have HT:Hid (Dv Q fold slices=2):=Xc (.inl (by omega))
  have g1:decide ((rs.length:Int) < 1)=true:=by simp;omega
  go_wp2
  go_ret
  exact⟨by rw [HT.out];rfl,HB.out⟩
 have g1:decide ((rs.length:Int) < 1)=false:=by rw [decide_eq_false_iff_not];omega
 by_cases h2:4 < rs.length
 ·have HT:Hid (Dv Q fold slices=2):=Xc (.inr (by omega))
  have g2:decide ((4:Int) < (rs.length:Int))=true:=by simp;omega
  go_wp2
  go_ret
  exact⟨by rw [HT.out];rfl,HB.out⟩
 have g2:decide ((4:Int) < (rs.length:Int))=false:=by rw [decide_eq_false_iff_not];omega
 have n1:¬ (Q.length < 1∨4 < Q.length):=by omega
 by_cases h3:fold < 1
 ·have HT:Hid (Dv Q fold slices=3):=Xb n1 (.inl h3)
  have g3:decide (fold < 1)=true:=by simpa using h3
  clear n1
  go_wp2
  go_ret
  exact⟨by rw [HT.out];rfl,HB.out⟩
 have g3:decide (fold < 1)=false:=by simpa using h3
 by_cases h4:4 < fold
 ·have HT:Hid (Dv Q fold slices=3):=Xb n1 (.inr h4)
  have g4:decide (4 < fold)=true:=by simpa using h4
  clear n1
  go_wp2
  go_ret
  exact⟨by rw [HT.out];rfl,HB.out⟩
 have g4:decide (4 < fold)=false:=by simpa using h4
 have n2:¬ (fold < 1∨4 < fold):=by omega
 by_cases h5:slices < 1
 ·have HT:Hid (Dv Q fold slices=1):=Ru n1 n2 (.inl h5)
  have g5:decide (slices < 1)=true:=by simpa using h5
  clear n1 n2
  go_wp2
  go_ret
  exact⟨by rw [HT.out];rfl,HB.out⟩
 have g5:decide (slices < 1)=false:=by simpa using h5
 by_cases h6:4 < slices
 ·have HT:Hid (Dv Q fold slices=1):=Ru n1 n2 (.inr h6)
  have g6:decide (4 < slices)=true:=by simpa using h6
  clear n1 n2
  go_wp2
  go_ret
  exact⟨by rw [HT.out];rfl,HB.out⟩
 have g6:decide (4 < slices)=false:=by simpa using h6
 have HJ:Hid (Dv Q fold slices=Ii Q):=Adp n1 n2 (by omega)
 clear n1 n2
 go_wp2_with fail
 clear c1 c2 c3 g1 g2 g3 g4 g5 g6
 go_loopw [38] (fun v wr=> ∃ j:Nat,j≤rs.length∧v= .int .i64 j∧Hid (Ii Q=Ii (Q.drop j))∧Hid (Below w.heap.size w wr)) (fun v _=> rs.length - (intOf v).toNat)
 case atStart=> exact⟨0,by omega,rfl,(by show _=_;rw [List.drop_zero]),HB⟩
 case round=>
  obtain⟨j,hj,rfl,HF,HBL⟩:=hrel
  by_cases hlt:j < rs.length
  ·obtain⟨b,off,r,rfl,hbw,hlk,hc⟩:=(HS.out.later HBL.out (Nat.le_refl _)).Y9 hlt
   obtain⟨d,hra⟩:=HR.out r (List.mem_of_getElem? hlk)
   have HDR:=Aa (Abx (HQ.out j r hlk))
   have k0:wr.cell? ⟨b,off+j * 15,none⟩=some (.bool r.each):=hc 0 _ rfl
   have k1:=hc 1 _ rfl
   have k2:=hc 2 _ rfl
   have k3:=hc 3 _ rfl
   have k4:=hc 4 _ rfl
   have k5:=hc 5 _ rfl
   have k6:=hc 6 _ rfl
   have k7:=hc 7 _ rfl
   have k8:=hc 8 _ rfl
   have k9:=hc 9 _ rfl
   have k10:=hc 10 _ rfl
   have k11:=hc 11 _ rfl
   have k12:=hc 12 _ rfl
   have k13:=hc 13 _ rfl
   have k14:=hc 14 _ rfl
   have HRC:=Aa fun w' (hb:Below w.heap.size w w')=> Alb r d w' (hra.later hb (Nat.le_refl _))
   have f1:(0:Int)≤(j:Int)∧(j:Int) < (rs.length:Int):=by omega
   obtain⟨f1,f2⟩:=f1
   clear hlk hc hra
   go_upto_region 10 with (fail)
   have hbA:Below wr.heap.size wr (wr.alloc (.cells #[.bool r.each, .int .i64 r.Bc, .int .i64 r.cond.k, .int .i64 r.cond.n, .string r.cond.s, .slice r.cond.ao r.cond.a.length r.cond.cap, .string r.C1, .int .i64 r.key.k, .int .i64 r.key.n, .string r.key.s, .slice r.key.ao r.key.a.length r.key.cap, .int .i64 r.val.k, .int .i64 r.val.n, .string r.val.s, .slice r.val.ao r.val.a.length r.val.cap] 193)):=(Below.refl _ _).alloc (Nat.le_refl _) _
   have hbk2:Bk (wr.alloc (.cells #[.bool r.each, .int .i64 r.Bc, .int .i64 r.cond.k, .int .i64 r.cond.n, .string r.cond.s, .slice r.cond.ao r.cond.a.length r.cond.cap, .string r.C1, .int .i64 r.key.k, .int .i64 r.key.n, .string r.key.s, .slice r.key.ao r.key.a.length r.key.cap, .int .i64 r.val.k, .int .i64 r.val.n, .string r.val.s, .slice r.val.ao r.val.a.length r.val.cap] 193)) wr.heap.size (A6 r):=Bk.new rfl
   replace k0:=hbk2.get (j:=0) rfl
   replace k1:=hbk2.get (j:=1) rfl
   replace k2:=hbk2.get (j:=2) rfl
   replace k3:=hbk2.get (j:=3) rfl
   replace k4:=hbk2.get (j:=4) rfl
   replace k5:=hbk2.get (j:=5) rfl
   replace k6:=hbk2.get (j:=6) rfl
   replace k7:=hbk2.get (j:=7) rfl
   replace k8:=hbk2.get (j:=8) rfl
   replace k9:=hbk2.get (j:=9) rfl
   replace k10:=hbk2.get (j:=10) rfl
   replace k11:=hbk2.get (j:=11) rfl
   replace k12:=hbk2.get (j:=12) rfl
   replace k13:=hbk2.get (j:=13) rfl
   replace k14:=hbk2.get (j:=14) rfl
   have HB2:=Aa (HBL.out.trans (hbA.mono HBL.out.size))
   have HRC2:=Aa (HRC.out _ HB2.out)
   clear hbA hbk2 HRC HBL
   generalize wr.alloc (.cells #[.bool r.each, .int .i64 r.Bc, .int .i64 r.cond.k, .int .i64 r.cond.n, .string r.cond.s, .slice r.cond.ao r.cond.a.length r.cond.cap, .string r.C1, .int .i64 r.key.k, .int .i64 r.key.n, .string r.key.s, .slice r.key.ao r.key.a.length r.key.cap, .int .i64 r.val.k, .int .i64 r.val.n, .string r.val.s, .slice r.val.ao r.val.a.length r.val.cap] 193)=W2 at *
   generalize hfr:Cj r.v=fr at *
   have HFR:=Aa hfr
   clear hfr
   unfold Ao.agg at HRC2
   go_wp2_with fail
   refine HRC2.out.mono ?_
   rintro e w3 ⟨rfl,b3⟩
   have HB3:=Aa (HB2.out.trans (b3.mono HB2.out.size))
   clear b3 HRC2
   by_cases hf0:fr=0
   ·have HF2:Hid (Ii Q=Ii (Q.drop (j+1))):=by show _=_;rw [HF.out,HDR.out,if_neg (by rw [hf0];simp)]
    rw [hf0,A3]
    clear hf0 HDR HF HFR
    go_wp2
    go_roundw
    case rel=> exact⟨j+1,by omega,by go_num,HF2,HB3⟩
    case measure=> (simp [intOf];try omega)
   ·have HT:Hid (Dv Q fold slices=fr):=by show _=_;rw [HJ.out,HF.out,HDR.out,if_pos hf0]
    rw [Ar hf0]
    have HFE:=Aa (Ar hf0)
    clear hf0 HDR HF HFR
    go_wp2
    go_ret
    exact⟨by rw [HT.out,HFE.out];rfl,HB3.out⟩
  ·obtain rfl:j=rs.length:=by omega
   have HT:Hid (Dv Q fold slices=0):=by show _=_;rw [HJ.out,HF.out,←hQl,List.drop_length];rfl
   go_wp2
   go_ret
   exact⟨by rw [HT.out];rfl,HBL.out⟩
end Go.Proofs.YtbibeionenjmfaaGreatDoor
