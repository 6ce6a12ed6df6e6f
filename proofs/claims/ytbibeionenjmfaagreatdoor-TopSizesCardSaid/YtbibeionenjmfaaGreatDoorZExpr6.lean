/- Expressions: expr.Check and ref.ExprFault tell the same. -/
import Derived.Deep.CutBlock
import Derived.Deep.CutRange
import Derived.Deep.DeepCutAuto
import Derived.Test.YtbibeionenjmfaaGreatDoorZExpr3
set_option linter.unusedSimpArgs false
set_option linter.unusedVariables false
namespace Go.Proofs.YtbibeionenjmfaaGreatDoor
open Go.RowKit Go.ChangeShapes Go.WideShapes Go.ChangeAt
def Dp (k:Int):List Bool:=if k=5 then [true,true] else if k=6∨k=8 then [true] else if k=10 then [false,false] else []
def Pj (k n:Int) (each:Bool):Bool:=if k=1 then(n ==0 && each) else if k=3∨k=6 then(decide (0≤n) && decide (n≤120)) else if k=7 then(decide (-1000≤n) && decide (n≤1000)) else n ==0
def Za (k:Int) (s:ByteArray):Bool:=if k=4 then(decide (s.size≤20) && !decide (0≤Lib.indexByte s.data.toList 10)) else s.toList.isEmpty
theorem Dt (b:Bool):(Gk b).length=1:=rfl
theorem Afv (s:ByteArray):Za 4 s=(decide (s.size≤20) && !decide (0≤Lib.indexByte s.data.toList 10)):=rfl
mutual
def Kg:Ah→Bool→Bool→Bool
 | .mk k n s a,text,each=> decide (1≤k∧k≤10) && (Pj k n each && (Za k s && ((decide (k≤6) ==text) && (a.length ==(Dp k).length && V2 a (Dp k) each))))
def V2:List Ah→List Bool→Bool→Bool
 | x::l,t::ts,each=> Kg x t each && V2 l ts each
 | [],_,_=> true
 | _::_, [],_=> true
end
theorem Agy (k n:Int) (s:ByteArray) (ao:Option Addr) (len cap:Nat) (w:World):
 Calls Tryz.prog 217 #[.agg #[.int .i64 k, .int .i64 n, .string s, .slice ao len cap]] w fun e w'=> e= .returned (.bool (decide (1≤k∧k≤6)))∧Below w.heap.size w w':=by
 obtain⟨c0,c1,c2,c3⟩:=Gq w k n s ao len cap
 have hb1:=Ef w k n s ao len cap
 by_cases h1:1≤k
 ·have e1:decide (1≤k)=true:=by simpa using h1
  go_enter Tryz.func217,Tryz.ntmps217
  go_wp2
  all_goals go_ret
  all_goals exact⟨J1 (by simp;omega),hb1⟩
 ·have e1:decide (1≤k)=false:=by simpa using h1
  go_enter Tryz.func217,Tryz.ntmps217
  go_wp2
  go_ret
  exact⟨J1 (by simp;try omega),hb1⟩
set_option maxRecDepth 100000 in
set_option maxHeartbeats 4000000 in
theorem Alq (d:Nat):∀ (k n:Int) (s:ByteArray) (a:List Ah) (ao:Option Addr) (cap:Nat) (w:World) (text each:Bool),Ip w d (.mk k n s a) (Mh k n s ao a.length cap)→
 Calls Tryz.prog 205 #[.agg #[.int .i64 k, .int .i64 n, .string s, .slice ao a.length cap], .bool text, .bool each] w fun e w'=> e= .returned (.bool (Kg (.mk k n s a) text each))∧Below w.heap.size w w':=by
 induction d with
 | zero=> intro _ _ _ _ _ _ _ _ _ h;exact h.elim
 | succ d ih=>
   intro k n s a ao cap w text each h
   have IH:=Aa ih
   clear ih
   obtain⟨ao',cap',he,hk,hn,hs,ha,hkids⟩:=h
   obtain⟨rfl,rfl⟩:ao=ao'∧cap=cap':=by simp [Mh] at he;exact⟨he.1,he.2⟩
   clear he
   have hk2:=hkids.mono (E':=Ip (Dj w k n s ao a.length cap) d) (fun x q hq=> hq.later (Ef w k n s ao a.length cap) (Nat.le_refl _)) (Ef w k n s ao a.length cap) (Nat.le_refl _)
   have HK:=Aa hk2
   obtain⟨c0,c1,c2,c3⟩:=Gq w k n s ao a.length cap
   have hb1:=Ef w k n s ao a.length cap
   have hsz1:w.heap.size < (Dj w k n s ao a.length cap).heap.size:=by simp
   clear hkids hk2
   unfold maxLen at ha hs
   by_cases h10:1≤k∧k≤10
   ·go_enter Tryz.func205,Tryz.ntmps205
    go_wp2
    go_quiet (fail)
    have hbq:Below (Dj w k n s ao a.length cap).heap.size (Dj w k n s ao a.length cap) ((Dj w k n s ao a.length cap).drewN nq):=below_drewN (Below.refl _ _) _
    have b0:=c0
    have b1:=c1
    have b2:=c2
    have b3:=c3
    have c0:=cell_later hbq c0
    have c1:=cell_later hbq c1
    have c2:=cell_later hbq c2
    have c3:=cell_later hbq c3
    have HBQ:=Aa hbq
    have HB1:=Aa hb1
    generalize (Dj w k n s ao a.length cap).drewN nq=wq at *
    generalize Dj w k n s ao a.length cap=wb at *
    clear hbq hb1
    go_upto_block 0 with (fail)
    go_cut [7,8,9] (fun nv sv kv wc=> ∃ ko,nv= .bool (Pj k n each)∧sv= .bool (Za k s)∧kv= .slice ko (Dp k).length (Dp k).length∧Sl 1 Gk wc ko (Dp k)∧Below wb.heap.size wb wc)
    case first=>
     obtain rfl | rfl | rfl | rfl | rfl | rfl | rfl | rfl | rfl | rfl:k=1∨k=2∨k=3∨k=4∨k=5∨k=6∨k=7∨k=8∨k=9∨k=10:=by omega
     all_goals clear hk h10 hsz1 IH HK b0 b1 b2 b3
     ·by_cases hz:n=0
      ·go_wp2
       go_meet
       exact⟨none,congrArg Value.bool (by simp [Pj,hz]),congrArg Value.bool (by simp [Za]),rfl,Sl.nil,HBQ.out⟩
      ·go_wp2
       go_meet
       exact⟨none,congrArg Value.bool (by simp [Pj,hz]),congrArg Value.bool (by simp [Za]),rfl,Sl.nil,HBQ.out⟩
     ·skip
      go_wp2
      all_goals
       go_meet
       refine⟨none,congrArg Value.bool ?_,congrArg Value.bool (by simp [Za]),rfl,Sl.nil,HBQ.out⟩
       first
        | (simp [Pj];done)
        | (simp [Pj];omega)
     ·skip
      go_wp2
      all_goals
       go_meet
       refine⟨none,congrArg Value.bool ?_,congrArg Value.bool (by simp [Za]),rfl,Sl.nil,HBQ.out⟩
       first
        | (simp [Pj];done)
        | (simp [Pj];omega)
     ·have HC:∀ w',Hid (Calls Tryz.prog 180 #[.string s, .string ⟨#[10]⟩] w' fun e w''=> e= .returned (.bool (decide (0≤Lib.indexByte s.data.toList 10)))∧w''=w'):=fun w'=> Tryz.strings_Contains_one s 10 w'
      obtain⟨cb,hcb⟩:∃ cb,decide (0≤Lib.indexByte s.data.toList 10)=cb:=⟨_,rfl⟩
      rw [hcb] at HC
      have HS4:=Afv s
      rw [hcb] at HS4
      have HS4:=Aa HS4
      clear hcb
      by_cases h20:s.size≤20
      ·have e20:decide ((s.size:Int)≤20)=true:=by simp;omega
       have hv:Hid (Za 4 s= !cb):=by show _=_;rw [HS4.out];simp [h20]
       go_wp2_with fail
       refine(HC _).out.mono ?_
       rintro e w5 ⟨rfl,rfl⟩
       go_wp2
       go_meet
       exact⟨none,congrArg Value.bool (by simp [Pj]),congrArg Value.bool (by rw [hv.out]),rfl,Sl.nil,HBQ.out⟩
      ·have e20:decide ((s.size:Int)≤20)=false:=by simp;omega
       have hv:Hid (Za 4 s=false):=by show _=_;rw [HS4.out];simp [h20]
       go_wp2
       go_meet
       exact⟨none,congrArg Value.bool (by simp [Pj]),congrArg Value.bool (by rw [hv.out]),rfl,Sl.nil,HBQ.out⟩
     ·skip
      go_wp2
      all_goals
       go_meet
       refine⟨_,congrArg Value.bool ?_,congrArg Value.bool (by simp [Za]),rfl,Sl.lit Dt (B3 _ _) rfl,HBQ.out.alloc HBQ.out.size _⟩
       first
        | (simp [Pj];done)
        | (simp [Pj];omega)
     ·skip
      go_wp2
      all_goals
       go_meet
       refine⟨_,congrArg Value.bool ?_,congrArg Value.bool (by simp [Za]),rfl,Sl.lit Dt (B3 _ _) rfl,HBQ.out.alloc HBQ.out.size _⟩
       first
        | (simp [Pj];done)
        | (simp [Pj];omega)
     ·skip
      go_wp2
      all_goals
       go_meet
       refine⟨none,congrArg Value.bool ?_,congrArg Value.bool (by simp [Za]),rfl,Sl.nil,HBQ.out⟩
       first
        | (simp [Pj];done)
        | (simp [Pj];omega)
     ·skip
      go_wp2
      all_goals
       go_meet
       refine⟨_,congrArg Value.bool ?_,congrArg Value.bool (by simp [Za]),rfl,Sl.lit Dt (B3 _ _) rfl,HBQ.out.alloc HBQ.out.size _⟩
       first
        | (simp [Pj];done)
        | (simp [Pj];omega)
     ·skip
      go_wp2
      all_goals
       go_meet
       refine⟨none,congrArg Value.bool ?_,congrArg Value.bool (by simp [Za]),rfl,Sl.nil,HBQ.out⟩
       first
        | (simp [Pj];done)
        | (simp [Pj];omega)
     ·skip
      go_wp2
      all_goals
       go_meet
       refine⟨_,congrArg Value.bool ?_,congrArg Value.bool (by simp [Za]),rfl,Sl.lit Dt (B3 _ _) rfl,HBQ.out.alloc HBQ.out.size _⟩
       first
        | (simp [Pj];done)
        | (simp [Pj];omega)
    case rest=>
     obtain⟨ko,rfl,rfl,rfl,hsl,hbw⟩:=hcut
     have hbt:Below w.heap.size w wc:=HB1.out.trans (hbw.mono HB1.out.size)
     have HBW:=Aa hbw
     have HBT:=Aa hbt
     have d0:=cell_later hbw b0
     have d1:=cell_later hbw b1
     have d2:=cell_later hbw b2
     have d3:=cell_later hbw b3
     have hr:Kg (.mk k n s a) text each=(Pj k n each && (Za k s && ((decide (k≤6) ==text) && (a.length ==(Dp k).length && V2 a (Dp k) each)))):=by
      rw [Kg,decide_eq_true h10];rfl
     have HR:=Aa hr
     have hTX:Hid (∀ w',Calls Tryz.prog 217 #[.agg #[.int .i64 k, .int .i64 n, .string s, .slice ao a.length cap]] w' fun e w''=> e= .returned (.bool (decide (k≤6)))∧Below w'.heap.size w' w''):=by
      intro w'
      have h:=Agy k n s ao a.length cap w'
      rwa [show decide (1≤k∧k≤6)=decide (k≤6) by simp;omega] at h
     have hkl:(Dp k).length≤2:=by unfold Dp;(repeat' split) <;> simp
     generalize Pj k n each=nb at *
     generalize Za k s=sb at *
     generalize Dp k=ks at *
     generalize decide (k≤6)=tv at *
     clear c0 c1 c2 c3 b0 b1 b2 b3 hbw hbt hr h10 hk hn
     cases nb
     ·go_wp2
      go_ret
      exact⟨J1 (by rw [HR.out];rfl),HBT.out⟩
     ·cases sb
      ·go_wp2
       go_ret
       exact⟨J1 (by rw [HR.out];rfl),HBT.out⟩
      ·go_wp2_with fail
       refine(hTX.out _).mono ?_
       rintro e w5 ⟨rfl,b5⟩
       have HB5:=Aa (HBT.out.trans (b5.mono HBT.out.size))
       have HW5:=Aa (HBW.out.trans (b5.mono HBW.out.size))
       have d3:=cell_later b5 d3
       have hsl5:=hsl.later b5 (Nat.le_refl _)
       clear b5
       by_cases ht:tv=text
       ·subst ht
        by_cases hlen:a.length=ks.length
        ·have hr2:V2 a ks each=Kg (.mk k n s a) tv each:=by rw [HR.out];simp [hlen]
         generalize hre:Kg (.mk k n s a) tv each=r at *
         have HRE:=Aa hre
         have HR2:=Aa hr2
         clear hre
         have HSL:=Aa hsl5
         have HLEN:=Aa hlen
         have e1:(tv !=tv)=false:=by simp
         clear hr2 hsl hsl5 hTX
         go_wp2
         have hlen:=HLEN.out
         go_loopw [98] (fun i wr=> ∃ j:Nat,j≤a.length∧i= .int .i64 j∧Hid (V2 (a.drop j) (ks.drop j) each=r)∧Below w5.heap.size w5 wr) (fun i _=> a.length - (intOf i).toNat)
         case atStart=> exact⟨0,by omega,rfl,HR2.out,Below.refl _ _⟩
         case round=>
          obtain⟨j,hj,rfl,hacc,hb5⟩:=hrel
          have hbw:=HW5.out.trans (hb5.mono HW5.out.size)
          by_cases hjl:j < a.length
          ·obtain⟨b,off,d',k',n',s',l',ao',cap',rfl,hbs,rfl,hx,hex,g0,g1,g2,g3⟩:=(HK.out.mono (E':=Ip wr d) (fun x q hq=> hq.later hbw (Nat.le_refl _)) hbw (Nat.le_refl _)).kid hjl
           obtain⟨b2,off2,t,rfl,hb2s,ht,u0⟩:=(HSL.out.later hb5 (Nat.le_refl _)).bool (k:=j) (by omega)
           have hst:Hid (r=(Kg (.mk k' n' s' l') t each && V2 (a.drop (j+1)) (ks.drop (j+1)) each)):=by
            show _=_
            rw [←hacc.out,drop_cons hx,drop_cons ht,V2]
           have hbx:=Ef wr k' n' s' ao' l'.length cap'
           obtain⟨e0,e1,e2,e3⟩:=Gq wr k' n' s' ao' l'.length cap'
           have u1:=cell_later hbx u0
           have HX:=Aa (IH.out k' n' s' l' ao' cap' (Dj wr k' n' s' ao' l'.length cap').drew t each (hex.later (hbx.drew) (Nat.le_refl _)))
           have HB:=Aa (hb5.trans ((hbx.drew).mono hb5.size))
           generalize Kg (.mk k' n' s' l') t each=q at *
           have f1:(0:Int)≤(j:Int)∧(j:Int) < (a.length:Int)∧(j:Int) < (ks.length:Int):=by omega
           obtain⟨f1,f2,f3⟩:=f1
           clear hx hex hbx hacc hbw ht
           go_upto_region 29 with (fail)
           refine Bm 6 (by kernel_rfl) (by kernel_rfl) ?_
           simp only [List.take_succ_cons,List.take_zero,List.drop_succ_cons,List.drop_zero]
           iterate 6 still_step
           refine wpStill_nil ?_
           go_wp2_with fail
           refine HX.out.mono ?_
           rintro e w6 ⟨rfl,b6⟩
           have HB6:=Aa (HB.out.trans (b6.mono HB.out.size))
           clear HX b6
           cases q
           ·go_wp2
            go_ret
            exact⟨J1 (by rw [HRE.out,hst.out];rfl),HB5.out.trans (HB6.out.mono HB5.out.size)⟩
           ·go_wp2
            go_roundw
            case rel=> exact⟨j+1,by omega,by go_num,by rw [hst.out];rfl,HB6.out⟩
            case measure=> (simp [intOf];try omega)
          ·have hr3:r=true:=by rw [←hacc.out,List.drop_eq_nil_of_le (by omega)];rfl
           have HR3:=Aa hr3
           have HBE:=Aa (HB5.out.trans (hb5.mono HB5.out.size))
           clear hr3 hlen
           go_wp2
           go_ret
           exact⟨J1 (by rw [HRE.out,HR3.out]),HBE.out⟩
        ·have hr2:Kg (.mk k n s a) tv each=false:=by rw [HR.out];simp [hlen]
         have HR2:=Aa hr2
         clear hr2 hTX
         have e1:(tv !=tv)=false:=by simp
         go_wp2
         go_ret
         exact⟨J1 (by rw [HR2.out]),HB5.out⟩
       ·have hr2:Kg (.mk k n s a) text each=false:=by rw [HR.out];simp [ht]
        have HR2:=Aa hr2
        clear hr2 hTX
        have e1:(tv !=text)=true:=by simpa using ht
        go_wp2
        go_ret
        exact⟨J1 (by rw [HR2.out]),HB5.out⟩
   ·have hr:Kg (.mk k n s a) text each=false:=by rw [Kg,decide_eq_false h10];rfl
    have HR:=Aa hr
    have q1:¬ k=1:=by omega
    have q2:¬ k=2:=by omega
    have q3:¬ k=3:=by omega
    have q4:¬ k=4:=by omega
    have q5:¬ k=5:=by omega
    have q6:¬ k=6:=by omega
    have q7:¬ k=7:=by omega
    have q8:¬ k=8:=by omega
    have q9:¬ k=9:=by omega
    have q10:¬ k=10:=by omega
    clear hr h10
    go_enter Tryz.func205,Tryz.ntmps205
    go_wp2
    go_quiet (fail)
    go_wp2
    go_ret
    exact⟨J1 (by rw [HR.out]),below_drewN hb1 _⟩
end Go.Proofs.YtbibeionenjmfaaGreatDoor
namespace Go.Proofs.YtbibeionenjmfaaGreatDoor
open Go.RowKit Go.ChangeShapes Go.WideShapes Go.ChangeAt
def C2 (e:Ah) (text each:Bool):Int:=if 30 < e.nodes∨5 < e.deep then 2 else if Kg e text each then 0 else 3
theorem Ais (e:Ah):(Rc e 1 30).1=true↔¬ (30 < e.nodes∨5 < e.deep):=by
 rw [(Af1 e 1 30 (by decide)).1]
 constructor
 ·rintro⟨h1,h2⟩;omega
 ·intro h;omega
set_option maxRecDepth 100000 in
set_option maxHeartbeats 1000000 in
theorem Qa (d:Nat) (k n:Int) (s:ByteArray) (a:List Ah) (ao:Option Addr) (cap:Nat) (w:World) (text each:Bool) (h:Ip w d (.mk k n s a) (Mh k n s ao a.length cap)):
 Calls Tryz.prog 181 #[.agg #[.int .i64 k, .int .i64 n, .string s, .slice ao a.length cap], .bool text, .bool each] w fun e w'=> e= .returned (Du (C2 (.mk k n s a) text each))∧Below w.heap.size w w':=by
 obtain⟨c0,c1,c2,c3⟩:=Gq w k n s ao a.length cap
 have hb1:=Ef w k n s ao a.length cap
 have h1:=h.later hb1 (Nat.le_refl _)
 have hb2:Below (Dj w k n s ao a.length cap).heap.size (Dj w k n s ao a.length cap) ((Dj w k n s ao a.length cap).alloc (.cells #[.int .i64 30] 3)):=(Below.refl _ _).alloc (Nat.le_refl _) _
 have hlt:w.heap.size < (Dj w k n s ao a.length cap).heap.size:=by simp
 have e0:=cell_later hb2 c0
 have e1:=cell_later hb2 c1
 have e2:=cell_later hb2 c2
 have e3:=cell_later hb2 c3
 have HX:=Aa (Ab2 d k n s a ao cap _ _ 1 30 (Dj w k n s ao a.length cap).heap.size h1 hb2 (Nat.le_refl _) (Bk.new rfl) (by decide) (by decide) (by decide) (by decide))
 have hs1:(Dj w k n s ao a.length cap).heap.size=w.heap.size+1:=by simp
 rw [hs1] at HX
 have hsz:=Ais (.mk k n s a)
 generalize Rc (.mk k n s a) 1 30=q at *
 obtain⟨q1,q2⟩:=q
 have HSZ:=Aa hsz
 have H1:=Aa h1
 have HB1:=Aa hb1
 have HB2:=Aa hb2
 have HC:Hid (∀ w':World,Below (Dj w k n s ao a.length cap).heap.size (Dj w k n s ao a.length cap) w'→w'.cell? ⟨w.heap.size,0,none⟩=some (.int .i64 k)∧w'.cell? ⟨w.heap.size,1,none⟩=some (.int .i64 n)∧w'.cell? ⟨w.heap.size,2,none⟩=some (.string s)∧w'.cell? ⟨w.heap.size,3,none⟩=some (.slice ao a.length cap)):=
  fun w' b=> ⟨cell_later b c0,cell_later b c1,cell_later b c2,cell_later b c3⟩
 clear hsz h1 hb1 hb2 h c0 c1 c2 c3
 dsimp only at HX
 go_enter Tryz.func181,Tryz.ntmps181
 go_wp2_with fail
 refine HX.out.mono ?_
 rintro e w3 ⟨rfl,k3,_⟩
 have hb3:=HB2.out.trans (k3.below (B:=(Dj w k n s ao a.length cap).heap.size) (fun q e=> by omega) HB2.out.size)
 have hbt:=HB1.out.trans (hb3.mono HB1.out.size)
 obtain⟨g0,g1,g2,g3⟩:=HC.out w3 hb3
 clear HX k3 e0 e1 e2 e3
 cases q1
 ·have hf:C2 (.mk k n s a) text each=2:=by
   unfold C2
   rcases Decidable.em (30 < (Ah.mk k n s a).nodes∨5 < (Ah.mk k n s a).deep) with h | h
   ·rw [if_pos h]
   ·exact absurd (HSZ.out.2 h) (by simp)
  have HF:=Aa hf
  clear hf
  go_wp2
  go_ret
  exact⟨by rw [HF.out];rfl,hbt⟩
 ·have hf:C2 (.mk k n s a) text each=if Kg (.mk k n s a) text each then 0 else 3:=by
   unfold C2
   rw [if_neg (HSZ.out.1 rfl)]
  have HW:=Aa (Alq d k n s a ao cap w3 text each (H1.out.later hb3 (Nat.le_refl _)))
  generalize Kg (.mk k n s a) text each=r at *
  have HBT:=Aa hbt
  have HF:=Aa hf
  clear hf hb3 hbt HC HSZ
  go_wp2_with fail
  refine HW.out.mono ?_
  rintro e w4 ⟨rfl,b4⟩
  have hb4:=HBT.out.trans (b4.mono HBT.out.size)
  clear HW b4
  cases r
  ·go_wp2
   go_ret
   exact⟨by rw [HF.out];rfl,hb4⟩
  ·go_wp2
   go_ret
   exact⟨by rw [HF.out];rfl,hb4⟩
end Go.Proofs.YtbibeionenjmfaaGreatDoor
