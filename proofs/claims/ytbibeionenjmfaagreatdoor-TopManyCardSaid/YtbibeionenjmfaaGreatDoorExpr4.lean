/- Expressions: their shape (expr.well, ref.shaped). -/
import Derived.Deep.CutBlock
import Derived.Deep.CutRange
import Derived.Deep.DeepCutAuto
import Derived.Test.YtbibeionenjmfaaGreatDoorExpr3
set_option linter.unusedSimpArgs false
set_option linter.unusedVariables false
namespace Go.Proofs.YtbibeionenjmfaaGreatDoor
open Go.RowKit Go.ChangeShapes Go.WideShapes Go.ChangeAt
def Dm (k:Int):List Bool:=if k=5 then [true,true] else if k=6∨k=8 then [true] else if k=10 then [false,false] else []
def Oz (k n:Int) (each:Bool):Bool:=if k=1 then(n ==0 && each) else if k=3∨k=6 then(decide (0≤n) && decide (n≤120)) else if k=7 then(decide (-1000≤n) && decide (n≤1000)) else n ==0
def Xn (k:Int) (s:ByteArray):Bool:=if k=4 then(decide (s.size≤20) && !decide (0≤Lib.indexByte s.data.toList 10)) else s.toList.isEmpty
theorem Dn (b:Bool):(Ge b).length=1:=rfl
theorem Aep (s:ByteArray):Xn 4 s=(decide (s.size≤20) && !decide (0≤Lib.indexByte s.data.toList 10)):=rfl
mutual
def J0:Af→Bool→Bool→Bool
 | .mk k n s a,text,each=> decide (1≤k∧k≤10) && (Oz k n each && (Xn k s && ((decide (k≤6) ==text) && (a.length ==(Dm k).length && Vb a (Dm k) each))))
def Vb:List Af→List Bool→Bool→Bool
 | x::l,t::ts,each=> J0 x t each && Vb l ts each
 | [],_,_=> true
 | _::_, [],_=> true
end
theorem Ag1 (k n:Int) (s:ByteArray) (ao:Option Addr) (len cap:Nat) (w:World):
 Calls Tryz.prog 217 #[.agg #[.int .i64 k, .int .i64 n, .string s, .slice ao len cap]] w fun e w'=> e= .returned (.bool (decide (1≤k∧k≤6)))∧Below w.heap.size w w':=by
 obtain⟨c0,c1,c2,c3⟩:=Gr w k n s ao len cap
 have hb1:=D8 w k n s ao len cap
 by_cases h1:1≤k
 ·have e1:decide (1≤k)=true:=by simpa using h1
  go_enter Tryz.func217,Tryz.ntmps217
  go_wp2
  all_goals go_ret
  all_goals exact⟨Js (by simp;omega),hb1⟩
 ·have e1:decide (1≤k)=false:=by simpa using h1
  go_enter Tryz.func217,Tryz.ntmps217
  go_wp2
  go_ret
  exact⟨Js (by simp;try omega),hb1⟩
set_option maxRecDepth 100000 in
set_option maxHeartbeats 4000000 in
theorem Ajv (d:Nat):∀ (k n:Int) (s:ByteArray) (a:List Af) (ao:Option Addr) (cap:Nat) (w:World) (text each:Bool),Ir w d (.mk k n s a) (L3 k n s ao a.length cap)→
 Calls Tryz.prog 205 #[.agg #[.int .i64 k, .int .i64 n, .string s, .slice ao a.length cap], .bool text, .bool each] w fun e w'=> e= .returned (.bool (J0 (.mk k n s a) text each))∧Below w.heap.size w w':=by
 induction d with
 | zero=> intro _ _ _ _ _ _ _ _ _ h;exact h.elim
 | succ d ih=>
   intro k n s a ao cap w text each h
   have IH:=Aa ih
   clear ih
   obtain⟨ao',cap',he,hk,hn,hs,ha,hkids⟩:=h
   obtain⟨rfl,rfl⟩:ao=ao'∧cap=cap':=by simp [L3] at he;exact⟨he.1,he.2⟩
   clear he
   have hk2:=hkids.mono (E':=Ir (Df w k n s ao a.length cap) d) (fun x q hq=> hq.later (D8 w k n s ao a.length cap) (Nat.le_refl _)) (D8 w k n s ao a.length cap) (Nat.le_refl _)
   have HK:=Aa hk2
   obtain⟨c0,c1,c2,c3⟩:=Gr w k n s ao a.length cap
   have hb1:=D8 w k n s ao a.length cap
   have hsz1:w.heap.size < (Df w k n s ao a.length cap).heap.size:=by simp
   clear hkids hk2
   unfold maxLen at ha hs
   by_cases h10:1≤k∧k≤10
   ·go_enter Tryz.func205,Tryz.ntmps205
    go_wp2
    go_quiet (fail)
    have hbq:Below (Df w k n s ao a.length cap).heap.size (Df w k n s ao a.length cap) ((Df w k n s ao a.length cap).drewN nq):=below_drewN (Below.refl _ _) _
    have b0:=c0
    have b1:=c1
    have b2:=c2
    have b3:=c3
    have c0:=cell_later hbq c0
    have c1:=cell_later hbq c1
    have c2:=cell_later hbq c2
    have c3:=cell_later hbq c3
    have HBQ:=Aa hbq
    have HB1:=Aa hb1
    generalize (Df w k n s ao a.length cap).drewN nq=wq at *
    generalize Df w k n s ao a.length cap=wb at *
    clear hbq hb1
    go_upto_block 0 with (fail)
    go_cut [7,8,9] (fun nv sv kv wc=> ∃ ko,nv= .bool (Oz k n each)∧sv= .bool (Xn k s)∧kv= .slice ko (Dm k).length (Dm k).length∧Sl 1 Ge wc ko (Dm k)∧Below wb.heap.size wb wc)
    case first=>
     obtain rfl | rfl | rfl | rfl | rfl | rfl | rfl | rfl | rfl | rfl:k=1∨k=2∨k=3∨k=4∨k=5∨k=6∨k=7∨k=8∨k=9∨k=10:=by omega
     all_goals clear hk h10 hsz1 IH HK b0 b1 b2 b3
     ·by_cases hz:n=0
      ·go_wp2
       go_meet
       exact⟨none,congrArg Value.bool (by simp [Oz,hz]),congrArg Value.bool (by simp [Xn]),rfl,Sl.nil,HBQ.out⟩
      ·go_wp2
       go_meet
       exact⟨none,congrArg Value.bool (by simp [Oz,hz]),congrArg Value.bool (by simp [Xn]),rfl,Sl.nil,HBQ.out⟩
     ·skip
      go_wp2
      all_goals
       go_meet
       refine⟨none,congrArg Value.bool ?_,congrArg Value.bool (by simp [Xn]),rfl,Sl.nil,HBQ.out⟩
       first
        | (simp [Oz];done)
        | (simp [Oz];omega)
     ·skip
      go_wp2
      all_goals
       go_meet
       refine⟨none,congrArg Value.bool ?_,congrArg Value.bool (by simp [Xn]),rfl,Sl.nil,HBQ.out⟩
       first
        | (simp [Oz];done)
        | (simp [Oz];omega)
     ·have HC:∀ w',Hid (Calls Tryz.prog 180 #[.string s, .string ⟨#[10]⟩] w' fun e w''=> e= .returned (.bool (decide (0≤Lib.indexByte s.data.toList 10)))∧w''=w'):=fun w'=> Tryz.strings_Contains_one s 10 w'
      obtain⟨cb,hcb⟩:∃ cb,decide (0≤Lib.indexByte s.data.toList 10)=cb:=⟨_,rfl⟩
      rw [hcb] at HC
      have HS4:=Aep s
      rw [hcb] at HS4
      have HS4:=Aa HS4
      clear hcb
      by_cases h20:s.size≤20
      ·have e20:decide ((s.size:Int)≤20)=true:=by simp;omega
       have hv:Hid (Xn 4 s= !cb):=by show _=_;rw [HS4.out];simp [h20]
       go_wp2_with fail
       refine(HC _).out.mono ?_
       rintro e w5 ⟨rfl,rfl⟩
       go_wp2
       go_meet
       exact⟨none,congrArg Value.bool (by simp [Oz]),congrArg Value.bool (by rw [hv.out]),rfl,Sl.nil,HBQ.out⟩
      ·have e20:decide ((s.size:Int)≤20)=false:=by simp;omega
       have hv:Hid (Xn 4 s=false):=by show _=_;rw [HS4.out];simp [h20]
       go_wp2
       go_meet
       exact⟨none,congrArg Value.bool (by simp [Oz]),congrArg Value.bool (by rw [hv.out]),rfl,Sl.nil,HBQ.out⟩
     ·skip
      go_wp2
      all_goals
       go_meet
       refine⟨_,congrArg Value.bool ?_,congrArg Value.bool (by simp [Xn]),rfl,Sl.lit Dn (Bt _ _) rfl,HBQ.out.alloc HBQ.out.size _⟩
       first
        | (simp [Oz];done)
        | (simp [Oz];omega)
     ·skip
      go_wp2
      all_goals
       go_meet
       refine⟨_,congrArg Value.bool ?_,congrArg Value.bool (by simp [Xn]),rfl,Sl.lit Dn (Bt _ _) rfl,HBQ.out.alloc HBQ.out.size _⟩
       first
        | (simp [Oz];done)
        | (simp [Oz];omega)
     ·skip
      go_wp2
      all_goals
       go_meet
       refine⟨none,congrArg Value.bool ?_,congrArg Value.bool (by simp [Xn]),rfl,Sl.nil,HBQ.out⟩
       first
        | (simp [Oz];done)
        | (simp [Oz];omega)
     ·skip
      go_wp2
      all_goals
       go_meet
       refine⟨_,congrArg Value.bool ?_,congrArg Value.bool (by simp [Xn]),rfl,Sl.lit Dn (Bt _ _) rfl,HBQ.out.alloc HBQ.out.size _⟩
       first
        | (simp [Oz];done)
        | (simp [Oz];omega)
     ·skip
      go_wp2
      all_goals
       go_meet
       refine⟨none,congrArg Value.bool ?_,congrArg Value.bool (by simp [Xn]),rfl,Sl.nil,HBQ.out⟩
       first
        | (simp [Oz];done)
        | (simp [Oz];omega)
     ·skip
      go_wp2
      all_goals
       go_meet
       refine⟨_,congrArg Value.bool ?_,congrArg Value.bool (by simp [Xn]),rfl,Sl.lit Dn (Bt _ _) rfl,HBQ.out.alloc HBQ.out.size _⟩
       first
        | (simp [Oz];done)
        | (simp [Oz];omega)
    case rest=>
     obtain⟨ko,rfl,rfl,rfl,hsl,hbw⟩:=hcut
     have hbt:Below w.heap.size w wc:=HB1.out.trans (hbw.mono HB1.out.size)
     have HBW:=Aa hbw
     have HBT:=Aa hbt
     have d0:=cell_later hbw b0
     have d1:=cell_later hbw b1
     have d2:=cell_later hbw b2
     have d3:=cell_later hbw b3
     have hr:J0 (.mk k n s a) text each=(Oz k n each && (Xn k s && ((decide (k≤6) ==text) && (a.length ==(Dm k).length && Vb a (Dm k) each)))):=by
      rw [J0,decide_eq_true h10];rfl
     have HR:=Aa hr
     have hTX:Hid (∀ w',Calls Tryz.prog 217 #[.agg #[.int .i64 k, .int .i64 n, .string s, .slice ao a.length cap]] w' fun e w''=> e= .returned (.bool (decide (k≤6)))∧Below w'.heap.size w' w''):=by
      intro w'
      have h:=Ag1 k n s ao a.length cap w'
      rwa [show decide (1≤k∧k≤6)=decide (k≤6) by simp;omega] at h
     have hkl:(Dm k).length≤2:=by unfold Dm;(repeat' split) <;> simp
     generalize Oz k n each=nb at *
     generalize Xn k s=sb at *
     generalize Dm k=ks at *
     generalize decide (k≤6)=tv at *
     clear c0 c1 c2 c3 b0 b1 b2 b3 hbw hbt hr h10 hk hn
     cases nb
     ·go_wp2
      go_ret
      exact⟨Js (by rw [HR.out];rfl),HBT.out⟩
     ·cases sb
      ·go_wp2
       go_ret
       exact⟨Js (by rw [HR.out];rfl),HBT.out⟩
      ·go_wp2_with fail
       refine(hTX.out _).mono ?_
       rintro e w5 ⟨rfl,b5⟩
       have HB5:=Aa (HBT.out.trans (b5.mono HBT.out.size))
       have HW5:=Aa (HBW.out.trans (b5.mono HBW.out.size))
       have d3:=cell_later b5 d3
       have hsl5:=hsl.later b5 (Nat.le_refl _)
       clear b5
       by_cases ht:tv=text
       ·subst ht
        by_cases hlen:a.length=ks.length
        ·have hr2:Vb a ks each=J0 (.mk k n s a) tv each:=by rw [HR.out];simp [hlen]
         generalize hre:J0 (.mk k n s a) tv each=r at *
         have HRE:=Aa hre
         have HR2:=Aa hr2
         clear hre
         have HSL:=Aa hsl5
         have HLEN:=Aa hlen
         have e1:(tv !=tv)=false:=by simp
         clear hr2 hsl hsl5 hTX
         go_wp2
         have hlen:=HLEN.out
         go_loopw [98] (fun i wr=> ∃ j:Nat,j≤a.length∧i= .int .i64 j∧Hid (Vb (a.drop j) (ks.drop j) each=r)∧Below w5.heap.size w5 wr) (fun i _=> a.length - (intOf i).toNat)
         case atStart=> exact⟨0,by omega,rfl,HR2.out,Below.refl _ _⟩
         case round=>
          obtain⟨j,hj,rfl,hacc,hb5⟩:=hrel
          have hbw:=HW5.out.trans (hb5.mono HW5.out.size)
          by_cases hjl:j < a.length
          ·obtain⟨b,off,d',k',n',s',l',ao',cap',rfl,hbs,rfl,hx,hex,g0,g1,g2,g3⟩:=(HK.out.mono (E':=Ir wr d) (fun x q hq=> hq.later hbw (Nat.le_refl _)) hbw (Nat.le_refl _)).kid hjl
           obtain⟨b2,off2,t,rfl,hb2s,ht,u0⟩:=(HSL.out.later hb5 (Nat.le_refl _)).bool (k:=j) (by omega)
           have hst:Hid (r=(J0 (.mk k' n' s' l') t each && Vb (a.drop (j+1)) (ks.drop (j+1)) each)):=by
            show _=_
            rw [←hacc.out,drop_cons hx,drop_cons ht,Vb]
           have hbx:=D8 wr k' n' s' ao' l'.length cap'
           obtain⟨e0,e1,e2,e3⟩:=Gr wr k' n' s' ao' l'.length cap'
           have u1:=cell_later hbx u0
           have HX:=Aa (IH.out k' n' s' l' ao' cap' (Df wr k' n' s' ao' l'.length cap').drew t each (hex.later (hbx.drew) (Nat.le_refl _)))
           have HB:=Aa (hb5.trans ((hbx.drew).mono hb5.size))
           generalize J0 (.mk k' n' s' l') t each=q at *
           have f1:(0:Int)≤(j:Int)∧(j:Int) < (a.length:Int)∧(j:Int) < (ks.length:Int):=by omega
           obtain⟨f1,f2,f3⟩:=f1
           clear hx hex hbx hacc hbw ht
           go_upto_region 29 with (fail)
           refine Bi 6 (by kernel_rfl) (by kernel_rfl) ?_
           simp only [List.take_succ_cons,List.take_zero,List.drop_succ_cons,List.drop_zero]
           iterate 6 still_step
           refine wpStill_nil ?_
           go_wp2_with fail
           refine HX.out.mono ?_
           rintro e w6 ⟨rfl,b6⟩
           have HB6:=Aa (HB.out.trans (b6.mono HB.out.size))
           clear HX b6
           cases q
           ·go_wp2
            go_ret
            exact⟨Js (by rw [HRE.out,hst.out];rfl),HB5.out.trans (HB6.out.mono HB5.out.size)⟩
           ·go_wp2
            go_roundw
            case rel=> exact⟨j+1,by omega,by go_num,by rw [hst.out];rfl,HB6.out⟩
            case measure=> (simp [intOf];try omega)
          ·have hr3:r=true:=by rw [←hacc.out,List.drop_eq_nil_of_le (by omega)];rfl
           have HR3:=Aa hr3
           have HBE:=Aa (HB5.out.trans (hb5.mono HB5.out.size))
           clear hr3 hlen
           go_wp2
           go_ret
           exact⟨Js (by rw [HRE.out,HR3.out]),HBE.out⟩
        ·have hr2:J0 (.mk k n s a) tv each=false:=by rw [HR.out];simp [hlen]
         have HR2:=Aa hr2
         clear hr2 hTX
         have e1:(tv !=tv)=false:=by simp
         go_wp2
         go_ret
         exact⟨Js (by rw [HR2.out]),HB5.out⟩
       ·have hr2:J0 (.mk k n s a) text each=false:=by rw [HR.out];simp [ht]
        have HR2:=Aa hr2
        clear hr2 hTX
        have e1:(tv !=text)=true:=by simpa using ht
        go_wp2
        go_ret
        exact⟨Js (by rw [HR2.out]),HB5.out⟩
   ·have hr:J0 (.mk k n s a) text each=false:=by rw [J0,decide_eq_false h10];rfl
    have HR:=Aa hr
    have q1:¬ k=1:=by omega
    have q2:¬ k=2:=by omega
    have q3:¬ k=3:=by omega
    have q4:¬ k=4:=by omega
    have q5:¬ k=5:=by omega
    have q6:¬ k=6:=by omega
    have q7:¬ k=7:=by omega
    have q8:¬ k=8:=by omega
    have q9:¬ k=9:=by omega
    have q10:¬ k=10:=by omega
    clear hr h10
    go_enter Tryz.func205,Tryz.ntmps205
    go_wp2
    go_quiet (fail)
    go_wp2
    go_ret
    exact⟨Js (by rw [HR.out]),below_drewN hb1 _⟩
end Go.Proofs.YtbibeionenjmfaaGreatDoor
