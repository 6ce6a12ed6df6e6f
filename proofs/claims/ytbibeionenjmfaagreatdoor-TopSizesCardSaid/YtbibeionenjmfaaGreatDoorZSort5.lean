/- Pairs sorted in place: the merge of two runs, walked: the general case. -/
import Derived.Deep.DeepCutAuto
import Derived.Test.YtbibeionenjmfaaGreatDoorZSort4
set_option linter.unusedSimpArgs false
set_option linter.unusedVariables false
namespace Go.Proofs.YtbibeionenjmfaaGreatDoor
open Go.RowKit
def Al9 (n cap g a m b:Nat):Prop:=∀ (l:List Pr) (w:World) (base:Nat),Dh w base g n cap l→a < m→m < b→b≤n→Bl (Cb l a m)→Bl (Cb l m b)→
    Calls Tryz.prog 207 #[.slice (some ⟨g,0,none⟩) n cap, .int .i64 a, .int .i64 m, .int .i64 b, .func (.func 159) #[] #[]] w fun e w'=> e= .returned (.tuple #[])∧Ab (fun q=> q=g) w w'∧Dh w' base g n cap (Av l a b)
def Aev (l:List Pr) (nn:Nat) (c:Nat):Bool:= !Cq (el l (nn - 1 - c)) (el l c)
theorem Alh {l:List Pr} {a m b mid nn s0 r0 s:Nat} (hmid:mid=(a+b) / 2) (hnn:nn=mid+m) (h0:s0=if mid < m then nn - b else a) (h1:r0=if mid < m then mid else m) (ham:a < m) (hmb:m < b) (hb:b≤l.length) (hl:Bl (Cb l a m)) (hr:Bl (Cb l m b))
 (e:Ends (Aev l nn) s0 r0 s s):
 a≤s∧s≤m∧s≤mid∧m≤nn - s∧nn - s≤b∧l.take a++Dz (Cb l a s++Cb l m (nn - s))++Dz (Cb l s m++Cb l (nn - s) b)++l.drop b=Av l a b:=by
 subst hnn h0 h1
 obtain⟨g1,g2,g3,g4,g5,g6,g7⟩:=Anu hmid ham hmb hb hl hr e
 exact⟨g1,g2,g3,g4,g5,Aew g1 g2 g3 g5 (by omega) ham hmb hb hl hr g6 g7⟩
theorem Aiq {l:List Pr} {a m b nn s:Nat} (t1:a≤s) (t2:s≤m) (t4:m≤nn - s) (t5:nn - s≤b) (hb:b≤l.length) (hl:Bl (Cb l a m)) (hr:Bl (Cb l m b))
 (h:l.take a++Dz (Cb l a s++Cb l m (nn - s))++Dz (Cb l s m++Cb l (nn - s) b)++l.drop b=Av l a b):
 ∃ A L1 L2 R1 R2 B,l=A++L1++L2++R1++(R2++B)∧A.length=a∧L1.length=s - a∧L2.length=m - s∧R1.length=(nn - s) - m∧R2.length=b - (nn - s)∧(Bl L1∧Bl L2∧Bl R1∧Bl R2)∧A++Dz (L1++R1)++(Dz (L2++R2)++B)=Av l a b:=by
 rw [←D7 (l:=l) t1 t2] at hl
 rw [←D7 (l:=l) t4 t5] at hr
 obtain⟨l1,l2,_⟩:=Bl.append.1 hl
 obtain⟨r1,r2,_⟩:=Bl.append.1 hr
 refine⟨l.take a,Cb l a s,Cb l s m,Cb l m (nn - s),Cb l (nn - s) b,l.drop b,?_,by simp;omega,Ff l t1 (by omega),Ff l t2 (by omega),Ff l t4 (by omega),Ff l t5 hb,⟨l1,l2,r1,r2⟩,by rw [←h];simp⟩
 have:=parts (l:=l) (a:=a) (m:=m) (b:=b) (by omega) (by omega) hb
 rw [←D7 (l:=l) t1 t2,←D7 (l:=l) t4 t5] at this
 simpa using this
theorem Aav {L R:List Pr} (hl:Bl L) (hr:Bl R) (h:L.length=0∨R.length=0):Dz (L++R)=L++R:=by
 rcases h with h | h
 ·obtain rfl:=List.length_eq_zero_iff.1 h;exact Zc hr
 ·obtain rfl:=List.length_eq_zero_iff.1 h;rw [List.append_nil];exact Zc hl
set_option maxRecDepth 100000 in
set_option maxHeartbeats 8000000 in
theorem Anv (n cap g a m b:Nat) (hn:n≤1000000000) (IH1:∀ s mid,mid < b→s < mid→a < s→Al9 n cap g a s mid) (IH2:∀ mid e,a < mid→mid < e→e < b→Al9 n cap g mid e b) (ha1:a+1 < m) (hb1:m+1 < b):Al9 n cap g a m b:=by
 intro l w base h ham hmb hbn hl hr
 have hlen:=Aa h.len
 have H:=Aa h;clear h
 have HL:=Aa hl
 have HR:=Aa hr
 have I1:=Aa IH1
 have I2:=Aa IH2
 clear hl hr IH1 IH2
 have e0:((m:Int) - a ==1)=false:=by rw [beq_eq_false_iff_ne];omega
 have e1:((b:Int) - m ==1)=false:=by rw [beq_eq_false_iff_ne];omega
 obtain⟨mid,hmid⟩:∃ mid:Nat,((a:Int)+b) / 2=(mid:Int):=⟨(a+b) / 2,by omega⟩
 have k1:a < mid:=by omega
 have k2:mid < b:=by omega
 have k3:mid=(a+b) / 2:=by omega
 have K3:=Aa k3
 have k4:a+b≤2 * mid+1:=by omega
 have k5:2 * mid≤a+b:=by omega
 obtain⟨nn,hnn⟩:∃ nn:Nat,(mid:Int)+m=(nn:Int):=⟨mid+m,by omega⟩
 have k6:nn=mid+m:=by omega
 have K6:=Aa k6
 have k7:nn≤mid+m:=by omega
 have k8:mid+m≤nn:=by omega
 obtain⟨p,hp⟩:∃ p:Nat,(nn:Int) - 1=(p:Int):=⟨nn - 1,by omega⟩
 have k9:p=nn - 1:=by omega
 have K9:=Aa k9
 have k10:p+1≤nn:=by omega
 have k11:nn≤p+1:=by omega
 clear k3 k6 k9
 obtain⟨s0,hs0⟩:∃ s0:Nat,s0=if mid < m then nn - b else a:=⟨_,rfl⟩
 obtain⟨r0,hr0⟩:∃ r0:Nat,r0=if mid < m then mid else m:=⟨_,rfl⟩
 have s1:s0≤r0:=by rw [hs0,hr0];split <;> omega
 have s2:p < b+s0:=by rw [hs0];split <;> omega
 have s3:r0≤p:=by rw [hr0];split <;> omega
 have s4:r0≤m:=by rw [hr0];split <;> omega
 have HS0:=Aa hs0
 have HR0:=Aa hr0
 clear hs0 hr0
 go_enter Tryz.func207,Tryz.ntmps207
 go_upto_if 140 with (fail)
 go_cut [20,21,143] (fun v1 v2 _ wc=> v1= .int .i64 s0∧v2= .int .i64 r0∧wc=w)
 case first=>
  as_aux_lemma=>
  by_cases hc:mid < m
  ·have f1:decide (mid < m)=true:=by simpa using hc
   obtain rfl:s0=nn - b:=by rw [HS0.out,if_pos hc]
   obtain rfl:r0=mid:=by rw [HR0.out,if_pos hc]
   have f2:(nn:Int) - b=((nn - b:Nat):Int):=by omega
   go_wp2
   go_meet
   exact⟨rfl,rfl,rfl⟩
  ·have f1:decide (mid < m)=false:=by simpa using hc
   obtain rfl:s0=a:=by rw [HS0.out,if_neg hc]
   obtain rfl:r0=m:=by rw [HR0.out,if_neg hc]
   go_wp2
   go_meet
   exact⟨rfl,rfl,rfl⟩
 case rest=>
  as_aux_lemma=>
  obtain⟨rfl,rfl,hw⟩:=hcut
  subst hw
  obtain⟨w0,hw0⟩:∃ w0:World,w0=wc:=⟨_,rfl⟩
  subst hw0
  go_wp2
  go_loopw [20,21] (fun p q wr=> ∃ i j:Nat,p= .int .i64 i∧q= .int .i64 j∧i≤j∧s0≤i∧j≤r0∧Hid (Ends (Aev l nn) s0 r0 i j)∧Below w0.heap.size w0 wr) (fun p q _=> (intOf q).toNat - (intOf p).toNat)
  case atStart=> exact⟨s0,r0,rfl,rfl,by omega,by omega,by omega,Ends.start _ (by omega),Below.refl _ _⟩
  case round=>
   obtain⟨i,j,rfl,rfl,hij,hmi,hjb,HE,hbl⟩:=hrel
   by_cases hlt:i < j
   ·obtain⟨h,hh⟩:∃ h:Nat,((i:Int)+j) / 2=(h:Int):=⟨(i+j) / 2,by omega⟩
    have g1:i≤h:=by omega
    have g2:h < j:=by omega
    obtain⟨c,hcc⟩:∃ c:Nat,(p:Int) - h=(c:Int):=⟨p - h,by omega⟩
    have g3:c < b:=by omega
    have HC:Hid (c=nn - 1 - h):=by show c=_;omega
    obtain⟨y,hy⟩:=get_some (l:=l) (i:=h) (by rw [←hlen.out];omega)
    obtain⟨x,hx⟩:=get_some (l:=l) (i:=c) (by rw [←hlen.out];omega)
    have ho:=H.out.later hbl
    obtain⟨x0,x1,_,_,_⟩:=Dh.at ho hx
    obtain⟨y0,y1,_,_,_⟩:=Dh.at ho hy
    have hel:Hid (Aev l nn h= !Cq x y):=by
     show Aev l nn h=_
     unfold Aev;rw [←HC.out,Afa hx,Afa hy]
    have f1:(0:Int)≤(h:Int)∧(h:Int) < (n:Int)∧(0:Int)≤(c:Int)∧(c:Int) < (n:Int):=by omega
    obtain⟨f1,f2,f3,f4⟩:=f1
    have f5:IntKind.i64.wrap (c:Int)=(c:Int):=IntWalk.i64_in _ (by omega)
    have f8:=Pa x y
    clear hx hy ho
    cases hk:Cq x y
    ·as_aux_lemma=>
     rw [hk] at f8
     have HE2:Hid (Ends (Aev l nn) s0 r0 (h+1) j):=HE.out.up g1 g2 (by rw [hel.out,hk];rfl)
     clear hk HE
     go_wp2
     go_region_held3 (fun w'=> w'.cell? ⟨g,h * 2,none⟩=some (.string y.1)∧w'.cell? ⟨g,h * 2+1,none⟩=some (.int .i64 y.2)∧w'.cell? ⟨g,c * 2,none⟩=some (.string x.1)∧w'.cell? ⟨g,c * 2+1,none⟩=some (.int .i64 x.2)∧Below wr.heap.size wr w')
      (first | (go_split_ands;exact⟨by simpa using y0,by simpa using y1,by simpa using x0,by simpa using x1,(Below.refl _ _).drew⟩) | (go_split_ands;exact⟨cell_later hb1 (by assumption),cell_later hb1 (by assumption),cell_later hb1 (by assumption),cell_later hb1 (by assumption),Below.trans (by assumption) (hb1.mono (Below.size (by assumption)))⟩))
      ((go_at_call 159;refine(J3 x y _).mono ?_;rintro e w1 ⟨rfl,hb1⟩))
     all_goals
      have hbl1:Below wr.heap.size wr w1:=And.right (And.right (And.right (And.right (by assumption))))
      have hbl2:=hbl.trans (hbl1.mono hbl.size)
      have HH:=Aa hh
      clear hh
      go_wp2
      go_roundw
      case rel=> exact⟨h+1,j,by go_num,rfl,by omega,by omega,by omega,HE2,hbl2⟩
      case measure=> (simp [intOf];try omega)
    ·as_aux_lemma=>
     rw [hk] at f8
     have HE2:Hid (Ends (Aev l nn) s0 r0 i h):=HE.out.down g1 g2 (by rw [hel.out,hk];rfl)
     clear hk HE
     go_wp2
     go_region_held3 (fun w'=> w'.cell? ⟨g,h * 2,none⟩=some (.string y.1)∧w'.cell? ⟨g,h * 2+1,none⟩=some (.int .i64 y.2)∧w'.cell? ⟨g,c * 2,none⟩=some (.string x.1)∧w'.cell? ⟨g,c * 2+1,none⟩=some (.int .i64 x.2)∧Below wr.heap.size wr w')
      (first | (go_split_ands;exact⟨by simpa using y0,by simpa using y1,by simpa using x0,by simpa using x1,(Below.refl _ _).drew⟩) | (go_split_ands;exact⟨cell_later hb1 (by assumption),cell_later hb1 (by assumption),cell_later hb1 (by assumption),cell_later hb1 (by assumption),Below.trans (by assumption) (hb1.mono (Below.size (by assumption)))⟩))
      ((go_at_call 159;refine(J3 x y _).mono ?_;rintro e w1 ⟨rfl,hb1⟩))
     all_goals
      have hbl1:Below wr.heap.size wr w1:=And.right (And.right (And.right (And.right (by assumption))))
      have hbl2:=hbl.trans (hbl1.mono hbl.size)
      have HH:=Aa hh
      clear hh
      go_wp2
      go_roundw
      case rel=> exact⟨i,h,rfl,rfl,by omega,by omega,by omega,HE2,hbl2⟩
      case measure=> (simp [intOf];try omega)
   ·as_aux_lemma=>
    obtain rfl:j=i:=by omega
    have f9:decide ((j:Int) < j)=false:=by simp
    obtain⟨t1,t2,t3,t4,t5,t6⟩:=Alh K3.out K6.out HS0.out HR0.out ham hmb (by rw [←hlen.out];exact hbn) HL.out HR.out HE.out
    obtain⟨A,L1,L2,R1,R2,B,hl,la,l1,l2,l3,l4,⟨ri1,ri2,ri3,ri4⟩,hT⟩:=Aiq t1 t2 t4 t5 (by rw [←hlen.out];exact hbn) HL.out HR.out t6
    obtain⟨en,hen⟩:∃ en:Nat,(nn:Int) - j=(en:Int):=⟨nn - j,by omega⟩
    have k12:nn - j=en:=by omega
    rw [k12] at l3 l4
    have k13:en+j≤nn:=by omega
    have k14:nn≤en+j:=by omega
    have hown:=H.out.later hbl
    have hkb:=Ab.Ai (S:=fun q=> q=g) hbl (Nat.le_refl _)
    rw [hl] at hown
    have HOWN:=Aa hown
    have HKB:=Aa hkb
    have HT:=Aa hT
    have LE:=Aa (show A.length=a∧L1.length=j - a∧L2.length=m - j∧R1.length=en - m∧R2.length=b - en from⟨la,l1,l2,l3,l4⟩)
    have RI:=Aa (show Bl L1∧Bl L2∧Bl R1∧Bl R2 from⟨ri1,ri2,ri3,ri4⟩)
    clear k12 HE hbl t6 hl la l1 l2 l3 l4 ri1 ri2 ri3 ri4 hT hown hkb
    go_upto_region 39 with (fail)
    go_cut [185] (fun v wc=> v= .bool (decide (j < m∧m < en))∧wc=wr)
    case first=>
     as_aux_lemma=>
     by_cases q1:j < m
     ·have q1':decide (j < m)=true:=by simpa using q1
      by_cases q2:m < en
      ·have q2':decide (m < en)=true:=by simpa using q2
       go_wp2
       go_meet
       exact⟨congrArg Value.bool (decide_eq_true (p:=j < m∧m < en) ⟨q1,q2⟩).symm,rfl⟩
      ·have q2':decide (m < en)=false:=by simpa using q2
       go_wp2
       go_meet
       exact⟨congrArg Value.bool (decide_eq_false (p:=j < m∧m < en) (by omega)).symm,rfl⟩
     ·have q1':decide (j < m)=false:=by simpa using q1
      go_wp2
      go_meet
      exact⟨congrArg Value.bool (decide_eq_false (p:=j < m∧m < en) (by omega)).symm,rfl⟩
    case rest=>
     as_aux_lemma=>
     obtain⟨rfl,rfl⟩:=hcut
     generalize hv:decide (j < m∧m < en)=bv
     have HV:=Aa hv
     clear hv
     go_upto_if 185 with (fail)
     go_cut [191] (fun _ w3=> Ab (fun q=> q=g) w0 w3∧Dh w3 base g n cap (A++L1++R1++L2++(R2++B)))
     case first=>
      as_aux_lemma=>
      cases bv
      ·have hv:=HV.out
       have hcur:A++L1++R1++L2++(R2++B)=A++L1++L2++R1++(R2++B):=by
        obtain⟨la,l1,l2,l3,l4⟩:=LE.out
        have hv':=of_decide_eq_false hv
        by_cases z:L2.length=0
        ·obtain rfl:=List.length_eq_zero_iff.1 z;simp
        ·obtain rfl:R1= []:=List.length_eq_zero_iff.1 (by omega)
         simp
       have HCUR:=Aa hcur
       clear hcur hv
       go_wp2
       go_meet
       exact⟨HKB.out,by rw [HCUR.out];exact HOWN.out⟩
      ·have hv:=of_decide_eq_true HV.out
       have h1:(A++L1).length=j:=by obtain⟨la,l1,l2,l3,l4⟩:=LE.out;simp;omega
       have h2:j+L2.length=m:=by obtain⟨la,l1,l2,l3,l4⟩:=LE.out;omega
       have h3:m+R1.length=en:=by obtain⟨la,l1,l2,l3,l4⟩:=LE.out;omega
       have h4:0 < L2.length:=by omega
       have h5:0 < R1.length:=by omega
       have HC:=Aa (Aem j m en n cap g (A++L1) L2 R1 (R2++B) (.func (.func 159) #[] #[]) HOWN.out hn h1 h2 h3 h4 h5)
       clear h1 h2 h3 h4 h5 hv
       go_wp2_with fail
       with_reducible refine HC.out.mono ?_
       rintro e w1 ⟨rfl,kk1,o1⟩
       go_wp2
       go_meet
       exact⟨HKB.out.trans kk1,o1⟩
     case rest=>
      as_aux_lemma=>
      obtain⟨hkb1,hown1⟩:=hcut
      have HK1:=Aa hkb1
      have HO1:=Aa hown1
      clear hkb1 hown1
      go_upto_region 41 with (fail)
      go_cut [199] (fun v w4=> v= .bool (decide (a < j∧j < mid))∧w4=wc)
      case first=>
       as_aux_lemma=>
       by_cases q1:a < j
       ·have q1':decide (a < j)=true:=by simpa using q1
        by_cases q2:j < mid
        ·have q2':decide (j < mid)=true:=by simpa using q2
         go_wp2
         go_meet
         exact⟨congrArg Value.bool (decide_eq_true (p:=a < j∧j < mid) ⟨q1,q2⟩).symm,rfl⟩
        ·have q2':decide (j < mid)=false:=by simpa using q2
         go_wp2
         go_meet
         exact⟨congrArg Value.bool (decide_eq_false (p:=a < j∧j < mid) (by omega)).symm,rfl⟩
       ·have q1':decide (a < j)=false:=by simpa using q1
        go_wp2
        go_meet
        exact⟨congrArg Value.bool (decide_eq_false (p:=a < j∧j < mid) (by omega)).symm,rfl⟩
      case rest=>
       as_aux_lemma=>
       obtain⟨rfl,rfl⟩:=hcut
       generalize hv2:decide (a < j∧j < mid)=bv2
       have HV2:=Aa hv2
       clear hv2
       go_upto_if 199 with (fail)
       go_cut [205] (fun _ w5=> Ab (fun q=> q=g) w0 w5∧Dh w5 base g n cap (A++Dz (L1++R1)++(L2++R2)++B))
       case first=>
        as_aux_lemma=>
        cases bv2
        ·have hv:=of_decide_eq_false HV2.out
         have hcur:Dz (L1++R1)=L1++R1:=by
          obtain⟨la,l1,l2,l3,l4⟩:=LE.out
          exact Aav RI.out.1 RI.out.2.2.1 (by omega)
         have HCUR:=Aa hcur
         clear hcur hv
         go_wp2
         go_meet
         exact⟨HK1.out,by rw [HCUR.out];have:=HO1.out;simpa using this⟩
        ·have hv:=of_decide_eq_true HV2.out
         obtain⟨la,l1,l2,l3,l4⟩:=LE.out
         have c1:Cb (A++L1++R1++L2++(R2++B)) a j=L1:=(Ot (A:=A) (S:=L1) (B:=R1++L2++(R2++B)) (by simp) la (by omega)).1
         have c2:Cb (A++L1++R1++L2++(R2++B)) j mid=R1:=(Ot (A:=A++L1) (S:=R1) (B:=L2++(R2++B)) (by simp) (by simp;omega) (by simp;omega)).1
         have c3:Av (A++L1++R1++L2++(R2++B)) a mid=A++Dz (L1++R1)++(L2++R2)++B:=by
          rw [L4 (A:=A) (S:=L1++R1) (B:=L2++(R2++B)) (by simp) la (by simp;omega)];simp
         have HC:=I1.out j mid k2 hv.2 hv.1 _ _ _ HO1.out hv.1 hv.2 (by omega) (by rw [c1];exact RI.out.1) (by rw [c2];exact RI.out.2.2.1)
         rw [c3] at HC
         have HC:=Aa HC
         clear la l1 l2 l3 l4 c1 c2 c3 hv
         go_wp2_with fail
         with_reducible refine HC.out.mono ?_
         rintro e w6 ⟨rfl,kk1,o1⟩
         go_wp2
         go_meet
         exact⟨HK1.out.trans kk1,o1⟩
       case rest=>
        as_aux_lemma=>
        obtain⟨hkb2,hown2⟩:=hcut
        have HK2:=Aa hkb2
        have HO2:=Aa hown2
        clear hkb2 hown2
        by_cases hv:mid < en∧en < b
        ·obtain⟨q1,q2⟩:=hv
         have q1':decide (mid < en)=true:=by simpa using q1
         have q2':decide (en < b)=true:=by simpa using q2
         obtain⟨la,l1,l2,l3,l4⟩:=LE.out
         have ls:(Dz (L1++R1)).length=mid - a:=by rw [Fg];simp;omega
         have c1:Cb (A++Dz (L1++R1)++(L2++R2)++B) mid en=L2:=(Ot (A:=A++Dz (L1++R1)) (S:=L2) (B:=R2++B) (by simp) (by simp;omega) (by simp;omega)).1
         have c2:Cb (A++Dz (L1++R1)++(L2++R2)++B) en b=R2:=(Ot (A:=A++Dz (L1++R1)++L2) (S:=R2) (B:=B) (by simp) (by simp;omega) (by simp;omega)).1
         have c3:Av (A++Dz (L1++R1)++(L2++R2)++B) mid b=A++Dz (L1++R1)++(Dz (L2++R2)++B):=by
          rw [L4 (A:=A++Dz (L1++R1)) (S:=L2++R2) (B:=B) (by simp) (by simp;omega) (by simp;omega)];simp
         have HC:=I2.out mid en k1 q1 q2 _ _ _ HO2.out q1 q2 hbn (by rw [c1];exact RI.out.2.1) (by rw [c2];exact RI.out.2.2.2)
         rw [c3,HT.out] at HC
         have HC:=Aa HC
         clear la l1 l2 l3 l4 c1 c2 c3 ls
         go_wp2_with fail
         with_reducible refine HC.out.mono ?_
         rintro e w6 ⟨rfl,kk1,o1⟩
         go_wp2
         go_end0
         exact⟨rfl,HK2.out.trans kk1,o1⟩
        ·have hcur:A++Dz (L1++R1)++(L2++R2)++B=Av l a b:=by
          obtain⟨la,l1,l2,l3,l4⟩:=LE.out
          rw [←HT.out,Aav RI.out.2.1 RI.out.2.2.2 (by omega)];simp
         have HCUR:=Aa hcur
         clear hcur
         by_cases q1:mid < en
         ·have q1':decide (mid < en)=true:=by simpa using q1
          have q2':decide (en < b)=false:=by simp;omega
          clear hv
          go_wp2
          go_end0
          exact⟨rfl,HK2.out,by rw [←HCUR.out];exact HO2.out⟩
         ·have q1':decide (mid < en)=false:=by simpa using q1
          clear hv
          go_wp2
          go_end0
          exact⟨rfl,HK2.out,by rw [←HCUR.out];exact HO2.out⟩
end Go.Proofs.YtbibeionenjmfaaGreatDoor
