/- Pairs sorted in place: the stable sort; order.Sort. -/
import Derived.Deep.DeepCutAuto
import Derived.Test.YtbibeionenjmfaaGreatDoorSort4
set_option linter.unusedSimpArgs false
set_option linter.unusedVariables false
namespace Go.Proofs.YtbibeionenjmfaaGreatDoor
open Go.RowKit
def Alq (n cap g a m b:Nat):Prop:=∀ (l:List Pr) (w:World) (base:Nat),Dc w base g n cap l→a < m→m < b→b≤n→Bh (B7 l a m)→Bh (B7 l m b)→
    Calls Tryz.prog 207 #[.slice (some ⟨g,0,none⟩) n cap, .int .i64 a, .int .i64 m, .int .i64 b, .func (.func 159) #[] #[]] w fun e w'=> e= .returned (.tuple #[])∧Ab (fun q=> q=g) w w'∧Dc w' base g n cap (Ar l a b)
def Ad8 (l:List Pr) (nn:Nat) (c:Nat):Bool:= !Co (el l (nn - 1 - c)) (el l c)
theorem Air {l:List Pr} {a m b mid nn s0 r0 s:Nat} (hmid:mid=(a+b) / 2) (hnn:nn=mid+m) (h0:s0=if mid < m then nn - b else a) (h1:r0=if mid < m then mid else m) (ham:a < m) (hmb:m < b) (hb:b≤l.length) (hl:Bh (B7 l a m)) (hr:Bh (B7 l m b))
 (e:Ends (Ad8 l nn) s0 r0 s s):
 a≤s∧s≤m∧s≤mid∧m≤nn - s∧nn - s≤b∧l.take a++Dq (B7 l a s++B7 l m (nn - s))++Dq (B7 l s m++B7 l (nn - s) b)++l.drop b=Ar l a b:=by
 subst hnn h0 h1
 obtain⟨g1,g2,g3,g4,g5,g6,g7⟩:=Akx hmid ham hmb hb hl hr e
 exact⟨g1,g2,g3,g4,g5,Ab7 g1 g2 g3 g5 (by omega) ham hmb hb hl hr g6 g7⟩
theorem Afd {l:List Pr} {a m b nn s:Nat} (t1:a≤s) (t2:s≤m) (t4:m≤nn - s) (t5:nn - s≤b) (hb:b≤l.length) (hl:Bh (B7 l a m)) (hr:Bh (B7 l m b))
 (h:l.take a++Dq (B7 l a s++B7 l m (nn - s))++Dq (B7 l s m++B7 l (nn - s) b)++l.drop b=Ar l a b):
 ∃ A L1 L2 R1 R2 B,l=A++L1++L2++R1++(R2++B)∧A.length=a∧L1.length=s - a∧L2.length=m - s∧R1.length=(nn - s) - m∧R2.length=b - (nn - s)∧(Bh L1∧Bh L2∧Bh R1∧Bh R2)∧A++Dq (L1++R1)++(Dq (L2++R2)++B)=Ar l a b:=by
 rw [←Du (l:=l) t1 t2] at hl
 rw [←Du (l:=l) t4 t5] at hr
 obtain⟨l1,l2,_⟩:=Bh.append.1 hl
 obtain⟨r1,r2,_⟩:=Bh.append.1 hr
 refine⟨l.take a,B7 l a s,B7 l s m,B7 l m (nn - s),B7 l (nn - s) b,l.drop b,?_,by simp;omega,E8 l t1 (by omega),E8 l t2 (by omega),E8 l t4 (by omega),E8 l t5 hb,⟨l1,l2,r1,r2⟩,by rw [←h];simp⟩
 have:=parts (l:=l) (a:=a) (m:=m) (b:=b) (by omega) (by omega) hb
 rw [←Du (l:=l) t1 t2,←Du (l:=l) t4 t5] at this
 simpa using this
theorem Zt {L R:List Pr} (hl:Bh L) (hr:Bh R) (h:L.length=0∨R.length=0):Dq (L++R)=L++R:=by
 rcases h with h | h
 ·obtain rfl:=List.length_eq_zero_iff.1 h;exact X3 hr
 ·obtain rfl:=List.length_eq_zero_iff.1 h;rw [List.append_nil];exact X3 hl
set_option maxRecDepth 100000 in
set_option maxHeartbeats 8000000 in
theorem Al5 (n cap g a m b:Nat) (hn:n≤1000000000) (IH1:∀ s mid,mid < b→s < mid→a < s→Alq n cap g a s mid) (IH2:∀ mid e,a < mid→mid < e→e < b→Alq n cap g mid e b) (ha1:a+1 < m) (hb1:m+1 < b):Alq n cap g a m b:=by
 intro l w base h ham hmb hbn hl hr
 have hlen:=Aa h.len
 have H:=Aa h;clear h
 have HL:=Aa hl
 have HR:=Aa hr
 have I1:=Aa IH1
 have I2:=Aa IH2
 clear hl hr IH1 IH2
 have e0:((m:Int) - a ==1)=false:=by rw [beq_eq_false_iff_ne];omega
 have e1:((b:Int) - m ==1)=false:=by rw [beq_eq_false_iff_ne];omega
 obtain⟨mid,hmid⟩:∃ mid:Nat,((a:Int)+b) / 2=(mid:Int):=⟨(a+b) / 2,by omega⟩
 have k1:a < mid:=by omega
 have k2:mid < b:=by omega
 have k3:mid=(a+b) / 2:=by omega
 have K3:=Aa k3
 have k4:a+b≤2 * mid+1:=by omega
 have k5:2 * mid≤a+b:=by omega
 obtain⟨nn,hnn⟩:∃ nn:Nat,(mid:Int)+m=(nn:Int):=⟨mid+m,by omega⟩
 have k6:nn=mid+m:=by omega
 have K6:=Aa k6
 have k7:nn≤mid+m:=by omega
 have k8:mid+m≤nn:=by omega
 obtain⟨p,hp⟩:∃ p:Nat,(nn:Int) - 1=(p:Int):=⟨nn - 1,by omega⟩
 have k9:p=nn - 1:=by omega
 have K9:=Aa k9
 have k10:p+1≤nn:=by omega
 have k11:nn≤p+1:=by omega
 clear k3 k6 k9
 obtain⟨s0,hs0⟩:∃ s0:Nat,s0=if mid < m then nn - b else a:=⟨_,rfl⟩
 obtain⟨r0,hr0⟩:∃ r0:Nat,r0=if mid < m then mid else m:=⟨_,rfl⟩
 have s1:s0≤r0:=by rw [hs0,hr0];split <;> omega
 have s2:p < b+s0:=by rw [hs0];split <;> omega
 have s3:r0≤p:=by rw [hr0];split <;> omega
 have s4:r0≤m:=by rw [hr0];split <;> omega
 have HS0:=Aa hs0
 have HR0:=Aa hr0
 clear hs0 hr0
 go_enter Tryz.func207,Tryz.ntmps207
 go_upto_if 140 with (fail)
 go_cut [20,21,143] (fun v1 v2 _ wc=> v1= .int .i64 s0∧v2= .int .i64 r0∧wc=w)
 case first=>
  as_aux_lemma=>
  by_cases hc:mid < m
  ·have f1:decide (mid < m)=true:=by simpa using hc
   obtain rfl:s0=nn - b:=by rw [HS0.out,if_pos hc]
   obtain rfl:r0=mid:=by rw [HR0.out,if_pos hc]
   have f2:(nn:Int) - b=((nn - b:Nat):Int):=by omega
   go_wp2
   go_meet
   exact⟨rfl,rfl,rfl⟩
  ·have f1:decide (mid < m)=false:=by simpa using hc
   obtain rfl:s0=a:=by rw [HS0.out,if_neg hc]
   obtain rfl:r0=m:=by rw [HR0.out,if_neg hc]
   go_wp2
   go_meet
   exact⟨rfl,rfl,rfl⟩
 case rest=>
  as_aux_lemma=>
  obtain⟨rfl,rfl,hw⟩:=hcut
  subst hw
  obtain⟨w0,hw0⟩:∃ w0:World,w0=wc:=⟨_,rfl⟩
  subst hw0
  go_wp2
  go_loopw [20,21] (fun p q wr=> ∃ i j:Nat,p= .int .i64 i∧q= .int .i64 j∧i≤j∧s0≤i∧j≤r0∧Hid (Ends (Ad8 l nn) s0 r0 i j)∧Below w0.heap.size w0 wr) (fun p q _=> (intOf q).toNat - (intOf p).toNat)
  case atStart=> exact⟨s0,r0,rfl,rfl,by omega,by omega,by omega,Ends.start _ (by omega),Below.refl _ _⟩
  case round=>
   obtain⟨i,j,rfl,rfl,hij,hmi,hjb,HE,hbl⟩:=hrel
   by_cases hlt:i < j
   ·obtain⟨h,hh⟩:∃ h:Nat,((i:Int)+j) / 2=(h:Int):=⟨(i+j) / 2,by omega⟩
    have g1:i≤h:=by omega
    have g2:h < j:=by omega
    obtain⟨c,hcc⟩:∃ c:Nat,(p:Int) - h=(c:Int):=⟨p - h,by omega⟩
    have g3:c < b:=by omega
    have HC:Hid (c=nn - 1 - h):=by show c=_;omega
    obtain⟨y,hy⟩:=get_some (l:=l) (i:=h) (by rw [←hlen.out];omega)
    obtain⟨x,hx⟩:=get_some (l:=l) (i:=c) (by rw [←hlen.out];omega)
    have ho:=H.out.later hbl
    obtain⟨x0,x1,_,_,_⟩:=Dc.at ho hx
    obtain⟨y0,y1,_,_,_⟩:=Dc.at ho hy
    have hel:Hid (Ad8 l nn h= !Co x y):=by
     show Ad8 l nn h=_
     unfold Ad8;rw [←HC.out,Aed hx,Aed hy]
    have f1:(0:Int)≤(h:Int)∧(h:Int) < (n:Int)∧(0:Int)≤(c:Int)∧(c:Int) < (n:Int):=by omega
    obtain⟨f1,f2,f3,f4⟩:=f1
    have f5:IntKind.i64.wrap (c:Int)=(c:Int):=IntWalk.i64_in _ (by omega)
    have f8:=Po x y
    clear hx hy ho
    cases hk:Co x y
    ·as_aux_lemma=>
     rw [hk] at f8
     have HE2:Hid (Ends (Ad8 l nn) s0 r0 (h+1) j):=HE.out.up g1 g2 (by rw [hel.out,hk];rfl)
     clear hk HE
     go_wp2
     go_region_held3 (fun w'=> w'.cell? ⟨g,h * 2,none⟩=some (.string y.1)∧w'.cell? ⟨g,h * 2+1,none⟩=some (.int .i64 y.2)∧w'.cell? ⟨g,c * 2,none⟩=some (.string x.1)∧w'.cell? ⟨g,c * 2+1,none⟩=some (.int .i64 x.2)∧Below wr.heap.size wr w')
      (first | (go_split_ands;exact⟨by simpa using y0,by simpa using y1,by simpa using x0,by simpa using x1,(Below.refl _ _).drew⟩) | (go_split_ands;exact⟨cell_later hb1 (by assumption),cell_later hb1 (by assumption),cell_later hb1 (by assumption),cell_later hb1 (by assumption),Below.trans (by assumption) (hb1.mono (Below.size (by assumption)))⟩))
      ((go_at_call 159;refine(Jv x y _).mono ?_;rintro e w1 ⟨rfl,hb1⟩))
     all_goals
      have hbl1:Below wr.heap.size wr w1:=And.right (And.right (And.right (And.right (by assumption))))
      have hbl2:=hbl.trans (hbl1.mono hbl.size)
      have HH:=Aa hh
      clear hh
      go_wp2
      go_roundw
      case rel=> exact⟨h+1,j,by go_num,rfl,by omega,by omega,by omega,HE2,hbl2⟩
      case measure=> (simp [intOf];try omega)
    ·as_aux_lemma=>
     rw [hk] at f8
     have HE2:Hid (Ends (Ad8 l nn) s0 r0 i h):=HE.out.down g1 g2 (by rw [hel.out,hk];rfl)
     clear hk HE
     go_wp2
     go_region_held3 (fun w'=> w'.cell? ⟨g,h * 2,none⟩=some (.string y.1)∧w'.cell? ⟨g,h * 2+1,none⟩=some (.int .i64 y.2)∧w'.cell? ⟨g,c * 2,none⟩=some (.string x.1)∧w'.cell? ⟨g,c * 2+1,none⟩=some (.int .i64 x.2)∧Below wr.heap.size wr w')
      (first | (go_split_ands;exact⟨by simpa using y0,by simpa using y1,by simpa using x0,by simpa using x1,(Below.refl _ _).drew⟩) | (go_split_ands;exact⟨cell_later hb1 (by assumption),cell_later hb1 (by assumption),cell_later hb1 (by assumption),cell_later hb1 (by assumption),Below.trans (by assumption) (hb1.mono (Below.size (by assumption)))⟩))
      ((go_at_call 159;refine(Jv x y _).mono ?_;rintro e w1 ⟨rfl,hb1⟩))
     all_goals
      have hbl1:Below wr.heap.size wr w1:=And.right (And.right (And.right (And.right (by assumption))))
      have hbl2:=hbl.trans (hbl1.mono hbl.size)
      have HH:=Aa hh
      clear hh
      go_wp2
      go_roundw
      case rel=> exact⟨i,h,rfl,rfl,by omega,by omega,by omega,HE2,hbl2⟩
      case measure=> (simp [intOf];try omega)
   ·as_aux_lemma=>
    obtain rfl:j=i:=by omega
    have f9:decide ((j:Int) < j)=false:=by simp
    obtain⟨t1,t2,t3,t4,t5,t6⟩:=Air K3.out K6.out HS0.out HR0.out ham hmb (by rw [←hlen.out];exact hbn) HL.out HR.out HE.out
    obtain⟨A,L1,L2,R1,R2,B,hl,la,l1,l2,l3,l4,⟨ri1,ri2,ri3,ri4⟩,hT⟩:=Afd t1 t2 t4 t5 (by rw [←hlen.out];exact hbn) HL.out HR.out t6
    obtain⟨en,hen⟩:∃ en:Nat,(nn:Int) - j=(en:Int):=⟨nn - j,by omega⟩
    have k12:nn - j=en:=by omega
    rw [k12] at l3 l4
    have k13:en+j≤nn:=by omega
    have k14:nn≤en+j:=by omega
    have hown:=H.out.later hbl
    have hkb:=Ab.Ag (S:=fun q=> q=g) hbl (Nat.le_refl _)
    rw [hl] at hown
    have HOWN:=Aa hown
    have HKB:=Aa hkb
    have HT:=Aa hT
    have LE:=Aa (show A.length=a∧L1.length=j - a∧L2.length=m - j∧R1.length=en - m∧R2.length=b - en from⟨la,l1,l2,l3,l4⟩)
    have RI:=Aa (show Bh L1∧Bh L2∧Bh R1∧Bh R2 from⟨ri1,ri2,ri3,ri4⟩)
    clear k12 HE hbl t6 hl la l1 l2 l3 l4 ri1 ri2 ri3 ri4 hT hown hkb
    go_upto_region 39 with (fail)
    go_cut [185] (fun v wc=> v= .bool (decide (j < m∧m < en))∧wc=wr)
    case first=>
     as_aux_lemma=>
     by_cases q1:j < m
     ·have q1':decide (j < m)=true:=by simpa using q1
      by_cases q2:m < en
      ·have q2':decide (m < en)=true:=by simpa using q2
       go_wp2
       go_meet
       exact⟨congrArg Value.bool (decide_eq_true (p:=j < m∧m < en) ⟨q1,q2⟩).symm,rfl⟩
      ·have q2':decide (m < en)=false:=by simpa using q2
       go_wp2
       go_meet
       exact⟨congrArg Value.bool (decide_eq_false (p:=j < m∧m < en) (by omega)).symm,rfl⟩
     ·have q1':decide (j < m)=false:=by simpa using q1
      go_wp2
      go_meet
      exact⟨congrArg Value.bool (decide_eq_false (p:=j < m∧m < en) (by omega)).symm,rfl⟩
    case rest=>
     as_aux_lemma=>
     obtain⟨rfl,rfl⟩:=hcut
     generalize hv:decide (j < m∧m < en)=bv
     have HV:=Aa hv
     clear hv
     go_upto_if 185 with (fail)
     go_cut [191] (fun _ w3=> Ab (fun q=> q=g) w0 w3∧Dc w3 base g n cap (A++L1++R1++L2++(R2++B)))
     case first=>
      as_aux_lemma=>
      cases bv
      ·have hv:=HV.out
       have hcur:A++L1++R1++L2++(R2++B)=A++L1++L2++R1++(R2++B):=by
        obtain⟨la,l1,l2,l3,l4⟩:=LE.out
        have hv':=of_decide_eq_false hv
        by_cases z:L2.length=0
        ·obtain rfl:=List.length_eq_zero_iff.1 z;simp
        ·obtain rfl:R1= []:=List.length_eq_zero_iff.1 (by omega)
         simp
       have HCUR:=Aa hcur
       clear hcur hv
       go_wp2
       go_meet
       exact⟨HKB.out,by rw [HCUR.out];exact HOWN.out⟩
      ·have hv:=of_decide_eq_true HV.out
       have h1:(A++L1).length=j:=by obtain⟨la,l1,l2,l3,l4⟩:=LE.out;simp;omega
       have h2:j+L2.length=m:=by obtain⟨la,l1,l2,l3,l4⟩:=LE.out;omega
       have h3:m+R1.length=en:=by obtain⟨la,l1,l2,l3,l4⟩:=LE.out;omega
       have h4:0 < L2.length:=by omega
       have h5:0 < R1.length:=by omega
       have HC:=Aa (Ab6 j m en n cap g (A++L1) L2 R1 (R2++B) (.func (.func 159) #[] #[]) HOWN.out hn h1 h2 h3 h4 h5)
       clear h1 h2 h3 h4 h5 hv
       go_wp2_with fail
       with_reducible refine HC.out.mono ?_
       rintro e w1 ⟨rfl,kk1,o1⟩
       go_wp2
       go_meet
       exact⟨HKB.out.trans kk1,o1⟩
     case rest=>
      as_aux_lemma=>
      obtain⟨hkb1,hown1⟩:=hcut
      have HK1:=Aa hkb1
      have HO1:=Aa hown1
      clear hkb1 hown1
      go_upto_region 41 with (fail)
      go_cut [199] (fun v w4=> v= .bool (decide (a < j∧j < mid))∧w4=wc)
      case first=>
       as_aux_lemma=>
       by_cases q1:a < j
       ·have q1':decide (a < j)=true:=by simpa using q1
        by_cases q2:j < mid
        ·have q2':decide (j < mid)=true:=by simpa using q2
         go_wp2
         go_meet
         exact⟨congrArg Value.bool (decide_eq_true (p:=a < j∧j < mid) ⟨q1,q2⟩).symm,rfl⟩
        ·have q2':decide (j < mid)=false:=by simpa using q2
         go_wp2
         go_meet
         exact⟨congrArg Value.bool (decide_eq_false (p:=a < j∧j < mid) (by omega)).symm,rfl⟩
       ·have q1':decide (a < j)=false:=by simpa using q1
        go_wp2
        go_meet
        exact⟨congrArg Value.bool (decide_eq_false (p:=a < j∧j < mid) (by omega)).symm,rfl⟩
      case rest=>
       as_aux_lemma=>
       obtain⟨rfl,rfl⟩:=hcut
       generalize hv2:decide (a < j∧j < mid)=bv2
       have HV2:=Aa hv2
       clear hv2
       go_upto_if 199 with (fail)
       go_cut [205] (fun _ w5=> Ab (fun q=> q=g) w0 w5∧Dc w5 base g n cap (A++Dq (L1++R1)++(L2++R2)++B))
       case first=>
        as_aux_lemma=>
        cases bv2
        ·have hv:=of_decide_eq_false HV2.out
         have hcur:Dq (L1++R1)=L1++R1:=by
          obtain⟨la,l1,l2,l3,l4⟩:=LE.out
          exact Zt RI.out.1 RI.out.2.2.1 (by omega)
         have HCUR:=Aa hcur
         clear hcur hv
         go_wp2
         go_meet
         exact⟨HK1.out,by rw [HCUR.out];have:=HO1.out;simpa using this⟩
        ·have hv:=of_decide_eq_true HV2.out
         obtain⟨la,l1,l2,l3,l4⟩:=LE.out
         have c1:B7 (A++L1++R1++L2++(R2++B)) a j=L1:=(Ob (A:=A) (S:=L1) (B:=R1++L2++(R2++B)) (by simp) la (by omega)).1
         have c2:B7 (A++L1++R1++L2++(R2++B)) j mid=R1:=(Ob (A:=A++L1) (S:=R1) (B:=L2++(R2++B)) (by simp) (by simp;omega) (by simp;omega)).1
         have c3:Ar (A++L1++R1++L2++(R2++B)) a mid=A++Dq (L1++R1)++(L2++R2)++B:=by
          rw [K8 (A:=A) (S:=L1++R1) (B:=L2++(R2++B)) (by simp) la (by simp;omega)];simp
         have HC:=I1.out j mid k2 hv.2 hv.1 _ _ _ HO1.out hv.1 hv.2 (by omega) (by rw [c1];exact RI.out.1) (by rw [c2];exact RI.out.2.2.1)
         rw [c3] at HC
         have HC:=Aa HC
         clear la l1 l2 l3 l4 c1 c2 c3 hv
         go_wp2_with fail
         with_reducible refine HC.out.mono ?_
         rintro e w6 ⟨rfl,kk1,o1⟩
         go_wp2
         go_meet
         exact⟨HK1.out.trans kk1,o1⟩
       case rest=>
        as_aux_lemma=>
        obtain⟨hkb2,hown2⟩:=hcut
        have HK2:=Aa hkb2
        have HO2:=Aa hown2
        clear hkb2 hown2
        by_cases hv:mid < en∧en < b
        ·obtain⟨q1,q2⟩:=hv
         have q1':decide (mid < en)=true:=by simpa using q1
         have q2':decide (en < b)=true:=by simpa using q2
         obtain⟨la,l1,l2,l3,l4⟩:=LE.out
         have ls:(Dq (L1++R1)).length=mid - a:=by rw [E6];simp;omega
         have c1:B7 (A++Dq (L1++R1)++(L2++R2)++B) mid en=L2:=(Ob (A:=A++Dq (L1++R1)) (S:=L2) (B:=R2++B) (by simp) (by simp;omega) (by simp;omega)).1
         have c2:B7 (A++Dq (L1++R1)++(L2++R2)++B) en b=R2:=(Ob (A:=A++Dq (L1++R1)++L2) (S:=R2) (B:=B) (by simp) (by simp;omega) (by simp;omega)).1
         have c3:Ar (A++Dq (L1++R1)++(L2++R2)++B) mid b=A++Dq (L1++R1)++(Dq (L2++R2)++B):=by
          rw [K8 (A:=A++Dq (L1++R1)) (S:=L2++R2) (B:=B) (by simp) (by simp;omega) (by simp;omega)];simp
         have HC:=I2.out mid en k1 q1 q2 _ _ _ HO2.out q1 q2 hbn (by rw [c1];exact RI.out.2.1) (by rw [c2];exact RI.out.2.2.2)
         rw [c3,HT.out] at HC
         have HC:=Aa HC
         clear la l1 l2 l3 l4 c1 c2 c3 ls
         go_wp2_with fail
         with_reducible refine HC.out.mono ?_
         rintro e w6 ⟨rfl,kk1,o1⟩
         go_wp2
         go_end0
         exact⟨rfl,HK2.out.trans kk1,o1⟩
        ·have hcur:A++Dq (L1++R1)++(L2++R2)++B=Ar l a b:=by
          obtain⟨la,l1,l2,l3,l4⟩:=LE.out
          rw [←HT.out,Zt RI.out.2.1 RI.out.2.2.2 (by omega)];simp
         have HCUR:=Aa hcur
         clear hcur
         by_cases q1:mid < en
         ·have q1':decide (mid < en)=true:=by simpa using q1
          have q2':decide (en < b)=false:=by simp;omega
          clear hv
          go_wp2
          go_end0
          exact⟨rfl,HK2.out,by rw [←HCUR.out];exact HO2.out⟩
         ·have q1':decide (mid < en)=false:=by simpa using q1
          clear hv
          go_wp2
          go_end0
          exact⟨rfl,HK2.out,by rw [←HCUR.out];exact HO2.out⟩
end Go.Proofs.YtbibeionenjmfaaGreatDoor
namespace Go.Proofs.YtbibeionenjmfaaGreatDoor
open Go.RowKit
theorem Il (n cap g:Nat) (hn:n≤1000000000):∀ N a m b,b - a≤N→Alq n cap g a m b
 | 0,a,m,b,hN=> fun l w base h ham hmb _ _ _=> by omega
 | N+1,a,m,b,hN=> fun l w base h ham hmb hbn hl hr=> by
   by_cases h1:m=a+1
   ·exact Aiv a m b n cap g l h hn h1 hmb hbn hr
   ·by_cases h2:b=m+1
    ·exact Ag3 a m b n cap g l h hn h2 (by omega) hbn hl
    ·exact Al5 n cap g a m b hn (fun s mid _ _ _=> Il n cap g hn N a s mid (by omega)) (fun mid e _ _ _=> Il n cap g hn N mid e b (by omega)) (by omega) (by omega) l w base h ham hmb hbn hl hr
set_option maxHeartbeats 4000000 in
theorem Adn (n cap g:Nat) (l:List Pr) {w:World} {base:Nat} (h:Dc w base g n cap l) (hn:n≤1000000000):
 Calls Tryz.prog 186 #[.slice (some ⟨g,0,none⟩) n cap, .int .i64 n, .func (.func 159) #[] #[]] w fun e w'=> e= .returned (.tuple #[])∧Ab (fun q=> q=g) w w'∧Dc w' base g n cap (Dq l):=by
 have hlen:=Aa h.len
 have H:=Aa h;clear h
 go_enter Tryz.func186,Tryz.ntmps186
 go_wp2
 go_loopw [7,8] (fun p q wr=> ∃ a:Nat,∃ cur,p= .int .i64 a∧q= .int .i64 ((a:Int)+20)∧a≤n∧Hid (Ph1 20 cur a∧cur.length=n∧B4 cur l)∧Ab (fun q=> q=g) w wr∧Dc wr base g n cap cur) (fun p _ _=> n - (intOf p).toNat)
 case atStart=> exact⟨0,l,by go_num,by go_num,by omega,⟨Ph1.start _ _,hlen.out.symm,B4.refl _⟩,Ab.refl _ _,H.out⟩
 case round=>
  obtain⟨a,cur,rfl,rfl,ha,HP,hkb,hown⟩:=hrel
  by_cases hb:a+20≤n
  ·obtain⟨p1,p2,p3⟩:=HP.out
   have HP':Hid (Ph1 20 (Ar cur a (a+20)) (a+20)∧(Ar cur a (a+20)).length=n∧B4 (Ar cur a (a+20)) l):=⟨p1.step (by omega) (by omega),by rw [Hv cur (by omega) (by omega)];exact p2,(Ip cur (by omega) (by omega)).trans p3⟩
   have HC:=Aa (Np a (a+20) n cap g cur hown hn (by omega) hb)
   have HKB:=Aa hkb
   clear p1 p2 p3 HP hkb hown
   go_wp2_with fail
   rw [show((a:Int)+20)=((a+20:Nat):Int) from by omega]
   with_reducible refine HC.out.mono ?_
   rintro e w1 ⟨rfl,k1,o1⟩
   have HK:=Aa (HKB.out.trans k1)
   have HO:=Aa o1
   clear k1 o1 HC HKB
   go_wp2
   go_roundw
   case rel=> exact⟨a+20,_,rfl,by go_num,by omega,HP',HK.out,HO.out⟩
   case measure=> (simp [intOf];try omega)
  ·obtain⟨p1,p2,p3⟩:=HP.out
   have HB:Hid (Blk 20 (Ar cur a n)∧(Ar cur a n).length=n∧B4 (Ar cur a n) l):=⟨p1.last (by omega) p2 ha (by omega),by rw [Hv cur ha (by omega)];exact p2,(Ip cur ha (by omega)).trans p3⟩
   have HC:=Aa (Np a n n cap g cur hown hn ha (Nat.le_refl _))
   have HKB:=Aa hkb
   have f1:decide ((a:Int)+20≤(n:Int))=false:=by simp;omega
   clear p1 p2 p3 HP hkb hown
   go_wp2_with fail
   with_reducible refine HC.out.mono ?_
   rintro e w1 ⟨rfl,k1,o1⟩
   have HK:=Aa (HKB.out.trans k1)
   have HO:=Aa o1
   clear k1 o1 HC HKB
   go_wp2
   go_loopw [6] (fun p wr=> ∃ bs:Nat,∃ cur,p= .int .i64 bs∧20≤bs∧bs≤2000000000∧Hid (Blk bs cur∧cur.length=n∧B4 cur l)∧Ab (fun q=> q=g) w wr∧Dc wr base g n cap cur) (fun p _=> n - (intOf p).toNat)
   case atStart=> exact⟨20,_,by go_num,by omega,by omega,HB,HK.out,HO.out⟩
   clear HB HK HO f1
   case round=>
    obtain⟨bs,cur,rfl,hbs,hbs2,HB,hkb,hown⟩:=hrel
    by_cases hlt:bs < n
    ·have HB2:=HB
     have HKB:=Aa hkb
     have HOWN:=Aa hown
     have f2:decide ((bs:Int) < (n:Int))=true:=by simp;omega
     have f2':decide (bs < n)=true:=by simpa using hlt
     clear hkb hown HB
     obtain⟨wo,hwo⟩:∃ wo:World,wo=wr:=⟨wr,rfl⟩
     subst hwo
     go_wp2
     go_loopw [7,8] (fun p q wr=> ∃ a:Nat,∃ cur,p= .int .i64 a∧q= .int .i64 ((a:Int)+2 * bs)∧a≤n∧Hid (Z1 bs cur a∧cur.length=n∧B4 cur l)∧Ab (fun q=> q=g) w wr∧Dc wr base g n cap cur) (fun p _ _=> n - (intOf p).toNat)
     case atStart=>
      obtain⟨p1,p2,p3⟩:=HB2.out
      exact⟨0,cur,by go_num,by go_num,by omega,⟨Z1.start p1,p2,p3⟩,HKB.out,HOWN.out⟩
     clear HB2 HKB HOWN
     case round=>
      obtain⟨a,cur,rfl,rfl,ha,HP,hkb,hown⟩:=hrel
      by_cases hb:a+2 * bs≤n
      ·obtain⟨p1,p2,p3⟩:=HP.out
       have HP':Hid (Z1 bs (Ar cur a (a+2 * bs)) (a+2 * bs)∧(Ar cur a (a+2 * bs)).length=n∧B4 (Ar cur a (a+2 * bs)) l):=⟨p1.step (by omega) (by omega),by rw [Hv cur (by omega) (by omega)];exact p2,(Ip cur (by omega) (by omega)).trans p3⟩
       have HC:=Aa (Il n cap g hn _ a (a+bs) (a+2 * bs) (Nat.le_refl _) cur wr base hown (by omega) (by omega) hb p1.two.1 p1.two.2)
       have HKB:=Aa hkb
       clear p1 p2 p3 HP hkb hown
       go_wp2_with fail
       rw [show((a:Int)+2 * bs)=((a+2 * bs:Nat):Int) from by omega,show((a:Int)+bs)=((a+bs:Nat):Int) from by omega]
       with_reducible refine HC.out.mono ?_
       rintro e w1 ⟨rfl,k1,o1⟩
       have HK:=Aa (HKB.out.trans k1)
       have HO:=Aa o1
       clear k1 o1 HC HKB
       go_wp2
       go_roundw
       case rel=> exact⟨a+2 * bs,_,rfl,by go_num,by omega,HP',HK.out,HO.out⟩
       case measure=> (simp [intOf];try omega)
      ·have f1:decide ((a:Int)+2 * bs≤(n:Int))=false:=by simp;omega
       by_cases hm:a+bs < n
       ·obtain⟨p1,p2,p3⟩:=HP.out
        have HB:Hid (Blk (2 * bs) (Ar cur a n)∧(Ar cur a n).length=n∧B4 (Ar cur a n) l):=⟨p1.Am9 (by omega) p2 ha (by omega),by rw [Hv cur ha (by omega)];exact p2,(Ip cur ha (by omega)).trans p3⟩
        have HC:=Aa (Il n cap g hn _ a (a+bs) n (Nat.le_refl _) cur wr base hown (by omega) (by omega) (Nat.le_refl _) p1.two.1 (p1.run p2 (by omega)))
        have HKB:=Aa hkb
        have f3:decide ((a:Int)+bs < (n:Int))=true:=by simp;omega
        clear p1 p2 p3 HP hkb hown
        go_wp2_with fail
        rw [show((a:Int)+bs)=((a+bs:Nat):Int) from by omega]
        with_reducible refine HC.out.mono ?_
        rintro e w1 ⟨rfl,k1,o1⟩
        have HK:=Aa (HKB.out.trans k1)
        have HO:=Aa o1
        clear k1 o1 HC HKB
        go_wp2
        go_roundw
        case rel=> exact⟨2 * bs,_,by go_num,by omega,by omega,HB,HK.out,HO.out⟩
        case measure=> (simp [intOf];try omega)
       ·obtain⟨p1,p2,p3⟩:=HP.out
        have HB:Hid (Blk (2 * bs) cur∧cur.length=n∧B4 cur l):=⟨p1.Aoo (by omega) p2 ha (by omega),p2,p3⟩
        have f3:decide ((a:Int)+bs < (n:Int))=false:=by simp;omega
        clear p1 p2 p3 HP
        go_wp2
        go_roundw
        case rel=> exact⟨2 * bs,_,by go_num,by omega,by omega,HB,hkb,hown⟩
        case measure=> (simp [intOf];try omega)
    ·have HE:Hid (cur=Dq l):=by
      obtain⟨p1,p2,p3⟩:=HB.out
      exact Qb (p1.whole (by omega)) p3
     go_wp2
     go_end0
     exact⟨rfl,hkb,by rw [←HE.out];exact hown⟩
end Go.Proofs.YtbibeionenjmfaaGreatDoor
