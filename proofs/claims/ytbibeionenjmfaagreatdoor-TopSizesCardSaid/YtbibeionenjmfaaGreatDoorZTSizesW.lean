/- TopSizes: the law's walk. -/
import Derived.Test.YtbibeionenjmfaaGreatDoorZTFinish
import Derived.Test.YtbibeionenjmfaaGreatDoorZFlNew
set_option linter.unusedSimpArgs false
set_option linter.unusedVariables false
namespace Go.Proofs.YtbibeionenjmfaaGreatDoor
open Go.RowKit
def Aes:List UInt8:= [115,117,109,32,49,10,107,101,121,32,108,105,110,101,32,118,97,108,32,109,97,110,121,10]
def Ape:Aw:=⟨false,0,Qg,tx [], .mk 2 0 (tx []) [], .mk 9 0 (tx []) []⟩
theorem Alf:Nu Aes=some ([Ape],1,1,false):=Ahr (s:=Aes) (rv:= [Ape]) (fold:=1) (slices:=1) (early:=false) (by decide+kernel) (by decide+kernel) (by decide)
def Vj:Ad:={F9 [(1,2)] 1 2 with Af:= [Dq 0 [Ape] 1 1 false [tx [97]] 1],log:=Kc (tx Ua, [0,1], [tx Aes,tx [97,10]])}
theorem Yc:Dm (F9 [(1,2)] 1 2) 0 Aes [97,10] 1=((0,0),Vj):=by
 unfold Dm Fv
 dsimp only
 rw [Alf]
 dsimp only
 rfl
theorem Aiy:(A4 Vj 0).1=((0,false,0),0):=by decide+kernel
theorem Ae4:(Cu (A4 Vj 0).2 0 1).1=0:=by decide+kernel
set_option maxRecDepth 100000 in
set_option maxHeartbeats 4000000 in
theorem Aix (w:World) (hg:GW w):Calls Tryz.prog 14 #[] w fun e w'=> e= .returned (.bool true)∧Below w.heap.size w w':=by
 obtain⟨W,hW⟩:∃ W,W=w.alloc (.cells #[.int .i64 1, .int .i64 2] 44):=⟨_,rfl⟩
 have hb:Below w.heap.size w W:=by rw [hW];exact ba w _
 have hs:Sl 2 Bx W (some ⟨w.heap.size,0,none⟩) [(1,2)]:=by rw [hW];exact Sl.lit Be (B3 _ _) rfl
 have HN:=Aa (Zq (some ⟨w.heap.size,0,none⟩) 1 [(1,2)] 1 2 W (hg.later hb (Nat.le_refl _)) hs (fun h=> by cases h) (by decide) (by decide) (by decide))
 have HB:=Aa hb
 have HW:=Aa hW
 have HW0:Hid (w.heap.size≤W.heap.size):=hb.size
 have HI0:Hid (InvM (F9 [(1,2)] 1 2)):=Ul (by decide) (by decide) (by decide)
 have HF1:Hid (E8 Vj 1):=by
  have h0:E8 (F9 [(1,2)] 1 2) 0:=Qw (by decide) (by decide) (by decide)
  have:=h0.M4 0 Aes [97,10] 1 (by decide) (by decide)
  rw [Yc] at this
  exact this
 clear hg hb hs hW
 go_enter Tryz.func14,Tryz.ntmps14
 go_wp2_with fail
 rw [←HW.out]
 clear HW
 refine HN.out.mono ?_
 rintro e w2 ⟨⟨fb,rfl,own,G,rfl,hf⟩,b2⟩
 replace HB:=Aa (HB.out.trans (b2.mono HB.out.size))
 have HSU:=Aa (Md 0 1 Aes [97,10] hf HI0.out.toInvC (by decide) (by decide) (by decide) (by decide))
 rw [Yc] at HSU
 have HF:=Aa hf
 have HX1:Hid (tx Aes=⟨#[115,117,109,32,49,10,107,101,121,32,108,105,110,101,32,118,97,108,32,109,97,110,121,10]⟩):=rfl
 have HX2:Hid (tx [97,10]=⟨#[97,10]⟩):=rfl
 rw [HX1.out,HX2.out,A3] at HSU
 clear HN hf b2 HX1 HX2
 go_wp2_with fail
 refine HSU.out.mono ?_
 rintro e w3 ⟨rfl,⟨own3,G3,hf3,hfb3,_⟩,k3⟩
 have HB3:Hid (Below w.heap.size w w3):=HB.out.trans (k3.below (B:=w.heap.size) (fun q hq=> Nat.le_trans HW0.out ((HF.out.lo q hq).1)) HB.out.size)
 have HJ:=Aa (Age hf3)
 have hjl:Vj.Af.length=1:=rfl
 rw [hfb3,hjl] at HJ
 have HF3:=Aa hf3
 have HFB3:=Aa hfb3
 clear HSU hf3 hfb3 hjl k3
 go_wp2_with fail
 refine HJ.out.mono ?_
 rintro e w4 ⟨rfl,b4⟩
 have hf4:=HF3.out.later b4
 have HO:=Aa (Tc 0 hf4 HF1.out.toInvC)
 rw [HFB3.out,Aiy,A3,show C9 (0,false,0)= .agg #[.int .i64 0, .bool false, .int .i64 0] from rfl] at HO
 have HB4:=Aa (HB3.out.trans (b4.mono HB3.out.size))
 have HF4:=Aa hf4
 clear hf4 b4 HJ
 go_wp2_with fail
 refine HO.out.mono ?_
 rintro e w5 ⟨rfl,⟨own5,G5,hf5,hfb5,_⟩,k5⟩
 have HB5:Hid (Below w.heap.size w w5):=HB4.out.trans (k5.below (B:=w.heap.size) (fun q hq=> Nat.le_trans HW0.out ((HF4.out.lo q hq).1)) HB4.out.size)
 have HF5:=Aa hf5
 have HFB5:=Aa hfb5
 have hi5:=HF1.out.offer 0
 have HWK:=Aa fun(w':World) (hb:Below w5.heap.size w5 w')=> Qb 0 1 (HF5.out.later hb) hi5.toInvM hi5.R3 (hi5.lgk (by decide)) (by decide)
 rw [Ae4,A3,HFB5.out,HFB3.out] at HWK
 have HT9:=Aa (Kk (W:=w5) (w:=w5) (cs:= #[.int .i64 0, .bool false, .int .i64 0]) (t:=33) (Below.refl w5.heap.size w5) rfl)
 have HA9:=Aa (ba w5 (.cells #[.int .i64 0, .bool false, .int .i64 0] 33))
 have HW9:=Aa (HWK.out _ HA9.out)
 have c0:=HT9.out.get (j:=0) rfl
 have c1:=HT9.out.get (j:=1) rfl
 have c2:=HT9.out.get (j:=2) rfl
 clear hf5 hfb5 k5 HO hi5
 go_wp2_with fail
 refine HW9.out.mono ?_
 rintro e w6 ⟨rfl,⟨own6,G6,hf6,_,_⟩,k6⟩
 have HB6:Hid (Below w.heap.size w w6):=HB5.out.trans ((HA9.out.mono HB5.out.size).trans (k6.below (B:=w.heap.size) (fun q hq=> Nat.le_trans HW0.out ((HF5.out.lo q hq).1)) (by have:=HB5.out.size;have:=HA9.out.size;omega)))
 clear hf6 k6 HW9 HWK c0 c1 c2
 go_wp2
 go_ret
 exact⟨rfl,HB6.out⟩
end Go.Proofs.YtbibeionenjmfaaGreatDoor
namespace Go.Proofs.YtbibeionenjmfaaGreatDoor
open Go.RowKit
theorem An2 (qa:Option Addr) (qc:Nat) (l:List (Int×Int)) (ws n:Int) (w:World) (hg:GW w) (hs:Sl 2 Bx w qa l) (hnil:qa=none→qc=0) (hq:Er l=0) (hv:1≤ws∧ws≤4∧1≤n∧n≤3):
 Calls Tryz.prog 20 #[.slice qa l.length qc, .int .i64 ws, .int .i64 n] w fun e w'=> (∃ fb,e= .returned (.tuple #[.pointer (some ⟨fb,0,none⟩), .nilIface])∧∃ own G,G.fb=fb∧B8 w w' own G (F9 l ws.toNat n.toNat))∧Below w.heap.size w w':=by
 have h:=Zq qa qc l ws.toNat n.toNat w hg hs hnil hq (by omega) (by omega)
 rw [Int.toNat_of_nonneg (by omega),Int.toNat_of_nonneg (by omega)] at h
 exact h
theorem Afd {w0 w:World} {own:Nat→Ez} {G:Bg} {F:Ad} {k0:Nat} (m:Int) (hm:m.toNat≤4∧0≤m) (h:B8 w0 w own G F) (hi:E8 F k0) (hk0:k0≤1000):
 Calls Tryz.prog 22 #[.pointer (some ⟨G.fb,0,none⟩), .int .i64 m] w fun e w'=> e= .returned (.tuple #[])∧Bu w0 w own G (Df F m.toNat 1000) w':=by
 have:=Ade (m:=m.toNat) h hi hk0 hm.1
 rw [Int.toNat_of_nonneg hm.2] at this
 exact this
theorem Wr {F:Ad} (h:InvM F) (m:Nat) (n:Nat):InvM (Df F m n):=by
 induction n generalizing F with
 | zero=> exact h
 | succ n ih=>
   have hr:∀ k,InvM (At F k).2:=fun k=> by
    induction k with
    | zero=> exact h
    | succ k ih2=>
      show InvM (Fp (At F k).2 k).2
      rw [Xs]
      have h1:=ih2.work (k:Int) 1048576
      have h2:∀ j,InvM (Gw (Cu (At F k).2 k 1048576).2 k j).2:=fun j=> by
       induction j with
       | zero=> exact h1
       | succ j ih3=> exact ih3.offer _
      exact(h2 3).work _ _
   unfold Df
   split
   ·exact ih (hr m)
   ·exact hr m
def Dd (prog inp:List UInt8):List ByteArray:=match Nu prog with
 | some (rv,fold,slices,_)=> Kf rv fold slices ((Mw inp).map tx)
 | none=> []
theorem Xx {m n:Nat} (hm:1≤m∧m≤4) (hn:1≤n∧n≤3) {prog inp:List UInt8} {size:Int} (h:(Dm (F9 [(1,12)] m n) 0 prog inp size).1.2=0):Po (Df (Dm (F9 [(1,12)] m n) 0 prog inp size).2 m 1000) 0=(Dd prog inp,0):=by
 have hi:InvM (Dm (F9 [(1,12)] m n) 0 prog inp size).2:=(Ul (by decide) hm hn).M4 0 prog inp size
 revert h hi
 unfold Dm
 dsimp only
 by_cases h1:(Fv (F9 [(1,12)] m n) 0 prog inp size).1≠0
 ·rw [if_pos h1]
  intro h;exact absurd h h1
 ·rw [if_neg h1]
  intro _ hi
  have hj:∃ rv fold slices early,Nu prog=some (rv,fold,slices,early)∧(Fv (F9 [(1,12)] m n) 0 prog inp size).2={F9 [(1,12)] m n with Af:= [Dq 0 rv fold slices early ((Mw inp).map tx) size.toNat]}:=by
   revert h1
   unfold Fv
   rw [if_neg (show ¬ ((0:Int) < 0∨(((F9 [(1,12)] m n).Aj.length:Nat):Int)≤0) by show ¬ ((0:Int) < 0∨((1:Nat):Int)≤0);decide),if_neg (show ¬ ((F9 [(1,12)] m n).Af.length=6) by show ¬ ((0:Nat)=6);decide)]
   cases Nu prog with
   | none=>
     intro h1
     refine absurd ?_ h1
     show Xa prog≠0
     unfold Xa;split <;> decide
   | some x=>
     obtain⟨rv,fold,slices,early⟩:=x
     dsimp only
     by_cases h2:N6 inp≠0
     ·rw [if_pos h2];intro h1;exact absurd h2 h1
     ·rw [if_neg h2]
      by_cases h3:size < 1∨60 < size
      ·rw [if_pos h3];intro h1;exact absurd (show ¬ (1:Int)=0 by decide) h1
      ·rw [if_neg h3]
       intro _
       exact⟨rv,fold,slices,early,rfl,rfl⟩
  obtain⟨rv,fold,slices,early,hjm,e⟩:=hj
  rw [e] at hi ⊢
  have hl:m=(F9 [(1,12)] m n).Ag.length:=by unfold F9;simp
  have:=Adf hi (by intro q hq;simp [F9] at hq;rw [hq];decide) (n:=0) (o:=Dq 0 rv fold slices early ((Mw inp).map tx) size.toNat) rfl
  rw [show((0:Nat):Int)=0 from rfl] at this
  have hl2:({F9 [(1,12)] m n with Af:= [Dq 0 rv fold slices early ((Mw inp).map tx) size.toNat],log:=(F9 [(1,12)] m n).log++Kc (tx Ua, [0,size], [tx prog,tx inp])}:Ad).Ag.length=m:=hl.symm
  rw [hl2] at this
  rw [show Dd prog inp=(Dq 0 rv fold slices early ((Mw inp).map tx) size.toNat).out by unfold Dd;rw [hjm];rfl]
  exact this
theorem Aij (prog inp:List UInt8):(Dd prog inp).length≤1000000000:=by
 unfold Dd
 cases h:Nu prog with
 | none=> simp
 | some x=>
   obtain⟨rv,fold,slices,early⟩:=x
   dsimp only
   rw [Aef]
   have:=(Lo (Afk h).1).2.2.1
   omega
structure SzR (wb wr:World) (k:Nat) (T:List ByteArray):Prop where
 E5:Below wb.heap.size wb wr
 bk:∃ v0 v1,Bk wr wb.heap.size [v0,v1]∧(1≤k→Own 1 Cm 9 wr wb.heap.size v0 T∧∀ q,v0.ownBlock=some q→q≠wb.heap.size)∧(2≤k→Own 1 Cm 9 wr wb.heap.size v1 T)
set_option maxRecDepth 100000 in
set_option maxHeartbeats 8000000 in
theorem Vp (prog inp:List UInt8) (a b workers Ag:Int) (w:World) (hg:GW w) (hpl:prog.length≤maxLen) (hil:inp.length≤maxLen) (ha: -9223372036854775808≤a∧a≤9223372036854775807) (hb: -9223372036854775808≤b∧b≤9223372036854775807):
 Calls Tryz.prog 4 #[.string (tx prog), .string (tx inp), .int .i64 a, .int .i64 b, .int .i64 workers, .int .i64 Ag] w fun e w'=> e= .returned (.bool true)∧Below w.heap.size w w':=by
 have HG:=Aa hg
 have HWK:=Aa (Aix w hg)
 have HA:=Aa ha
 have HBB:=Aa hb
 have HSP:=Aa (Am (l:=prog))
 have HSI:=Aa (Am (l:=inp))
 unfold maxLen at hpl hil
 clear hg ha hb
 obtain⟨tp,htp⟩:∃ tp,tp=tx prog:=⟨_,rfl⟩
 obtain⟨ti,hti⟩:∃ ti,ti=tx inp:=⟨_,rfl⟩
 rw [←htp] at HSP ⊢
 rw [←hti] at HSI ⊢
 have hsp:=HSP.out
 have hsi:=HSI.out
 have HTP:=Aa htp
 have HTI:=Aa hti
 clear htp hti hsp hsi hpl hil
 go_enter Tryz.func4,Tryz.ntmps4
 go_wp2_with fail
 refine HWK.out.mono ?_
 rintro e w1 ⟨rfl,b1⟩
 have HB1:=Aa b1
 clear b1 HWK
 by_cases hp9:900 < tp.size
 ·have f1:decide ((900:Int) < (tp.size:Int))=true:=by simp;omega
  go_wp2
  go_ret
  exact⟨rfl,HB1.out⟩
 ·have f1:decide ((900:Int) < (tp.size:Int))=false:=by simp;omega
  by_cases hi5:5000 < ti.size
  ·have f2:decide ((5000:Int) < (ti.size:Int))=true:=by simp;omega
   go_wp2
   go_ret
   exact⟨rfl,HB1.out⟩
  ·have f2:decide ((5000:Int) < (ti.size:Int))=false:=by simp;omega
   have HPL:Hid (prog.length≤100000):=by show _≤_;have:=HSP.out;omega
   have HIL:Hid (inp.length≤1000000):=by show _≤_;have:=HSI.out;omega
   obtain⟨W1,hW1⟩:∃ W1,W1=w1.alloc (.cells #[.slice none 0 0, .slice none 0 0] 40):=⟨_,rfl⟩
   have HR0:Hid (SzR w1 W1 0 (Dd prog inp)):=by
    rw [hW1]
    exact⟨ba w1 _,_,_,Bk.new rfl,fun h=> absurd h (by omega),fun h=> absurd h (by omega)⟩
   have HW1:=Aa hW1
   clear hW1 hp9 hi5
   go_upto_region 7 with (fail)
   rw [←HW1.out]
   clear HW1
   go_wp2
   go_loopw [15] (fun iv wr=> ∃ k:Nat,k≤2∧iv= .int .i64 k∧Hid (SzR w1 wr k (Dd prog inp))) (fun iv _=> 2 - (intOf iv).toNat)
   case atStart=> exact⟨0,by omega,by go_num,HR0⟩
   case round=>
    clear HR0
    obtain⟨k,hk,rfl,HR⟩:=hrel
    obtain⟨W2,hW2⟩:∃ W2,W2=wr.alloc (.cells #[.int .i64 1, .int .i64 12] 44):=⟨_,rfl⟩
    have hb2:Below wr.heap.size wr W2:=by rw [hW2];exact ba wr _
    have HSQ:Hid (Sl 2 Bx W2 (some ⟨wr.heap.size,0,none⟩) [(1,12)]):=by rw [hW2];exact Sl.lit Be (B3 _ _) rfl
    have HB2:=Aa (HR.out.E5.trans (hb2.mono HR.out.E5.size))
    have HBW:=HB1
    have HGW:=Aa ((HG.out.later HB1.out (Nat.le_refl _)).later HB2.out (Nat.le_refl _))
    have HW2:=Aa hW2
    obtain⟨v0,v1,hbk,ho0,ho1⟩:=HR.out.bk
    have HBK2:=Aa (hbk.later hb2)
    have HKB:=Aa fun(w6:World) (_:Below w1.heap.size w1 w6) (hb6:Below W2.heap.size W2 w6)=> (⟨(hbk.later hb2).later hb6,fun h=> ⟨(Ab.Ai (S:=fun _=> False) (hb2.trans (hb6.mono hb2.size)) (Nat.le_refl _)).own (ho0 h).1 fun _ _=> id,(ho0 h).2⟩⟩:Bk w6 w1.heap.size [v0,v1]∧(1≤k→Own 1 Cm 9 w6 w1.heap.size v0 (Dd prog inp)∧∀ q,v0.ownBlock=some q→q≠w1.heap.size))
    have hc:k=0∨k=1∨k=2:=by omega
    have HR0':=Aa (HB1.out.trans (HR.out.E5.mono HB1.out.size))
    clear hW2 hb2 HR
    rcases hc with rfl | rfl | rfl
    ·clear ho0 ho1 hbk
     have HNB:=Aa fun(hv:¬ (1≤(1:Int)∧(1:Int)≤4∧1≤(1:Int)∧(1:Int)≤3))=> Zr (some ⟨wr.heap.size,0,none⟩) 1 [(1,12)] 1 1 W2 (by decide) HSQ.out (.inr hv)
     have HNY:=Aa fun(hv:1≤(1:Int)∧(1:Int)≤4∧1≤(1:Int)∧(1:Int)≤3)=> An2 (some ⟨wr.heap.size,0,none⟩) 1 [(1,12)] 1 1 W2 HGW.out HSQ.out (fun h=> by cases h) (by decide) hv
     by_cases hv:1≤(1:Int)∧(1:Int)≤4∧1≤(1:Int)∧(1:Int)≤3
     ·have HNO:=Aa (HNY.out hv)
      have HFI0:Hid (E8 (F9 [(1,12)] (1:Int).toNat (1:Int).toNat) 0):=Qw (by decide) (by omega) (by omega)
      have HLAW:=Aa fun h=> Xx (m:=(1:Int).toNat) (n:=(1:Int).toNat) (prog:=prog) (inp:=inp) (size:=a) (by omega) (by omega) h
      have HFS:=Aa (HFI0.out.M4 0 prog inp a HPL.out HIL.out)
      have HWK4:Hid ((1:Int).toNat≤4∧0≤(1:Int)):=by show _∧_;omega
      clear HNB HNY hv
      generalize hFn:F9 [(1,12)] (1:Int).toNat (1:Int).toNat=Fn at *
      go_wp2_with fail
      rw [←HW2.out]
      refine HNO.out.mono ?_
      rintro e w3 ⟨⟨fb,rfl,own,G,rfl,hf⟩,b3⟩
      have hsu:=Md 0 a prog inp hf HFI0.out.toInvC (Nat.le_trans (HFI0.out.lgk (by decide)) (by decide)) HPL.out HIL.out (by first | exact HA.out.2 | exact HBB.out.2)
      rw [←HTP.out,←HTI.out] at hsu
      generalize hss:Dm Fn 0 prog inp a=ss at *
      obtain⟨⟨nn,er⟩,Fs⟩:=ss
      dsimp only at hsu HLAW HFS
      have HSU:=Aa hsu
      have HB3:=Aa (HB2.out.trans (b3.mono HB2.out.size))
      have HK3:=Aa (HBK2.out.later b3)
      clear hsu hf b3 HNO hss hFn HBK2
      by_cases h0:er=0
      ·subst h0
       rw [A3] at HSU
       have hlaw:=HLAW.out rfl
       have HLW:=Aa hlaw
       clear hlaw HLAW
       go_wp2_with fail
       refine HSU.out.mono ?_
       rintro e w4 ⟨rfl,⟨own4,G4,hf4,hfb4,hag4⟩,k4⟩
       have hfin:=Afd 1 HWK4.out hf4 HFS.out (by decide)
       rw [hfb4] at hfin
       have HFN:=Aa hfin
       have HB4:=Aa (HB2.out.trans (hf4.E5.mono HB2.out.size))
       have HF4:=Aa hf4
       have HFB4:=Aa hfb4
       clear hf4 hfb4 hag4 k4 hfin HSU
       go_wp2_with fail
       refine HFN.out.mono ?_
       rintro e w5 ⟨rfl,⟨own5,G5,hf5,hfb5,hag5⟩,k5⟩
       have hfi5:=Wr HFS.out.toInvM (1:Int).toNat 1000
       have hou:=Zs 0 hf5 hfi5.toInvC
       rw [hfb5,HFB4.out,HLW.out,A3] at hou
       have HOU:=Aa hou
       have HB5:=Aa (HB2.out.trans (hf5.E5.mono HB2.out.size))
       have HF5:=Aa hf5
       clear hf5 hfb5 hag5 k5 hfi5 hou HFN HF4 HFB4
       go_wp2_with fail
       refine HOU.out.mono ?_
       rintro e w6 ⟨⟨v,rfl,hv6⟩,b6⟩
       obtain⟨va,vc,rfl⟩:=id hv6.1
       have HB6:=Aa (HB5.out.trans (b6.mono HB5.out.size))
       have hk6:=HKB.out w6 HB6.out (HF5.out.E5.trans (b6.mono HF5.out.E5.size))
       have HV6:=Aa (hv6.B6 HB5.out.size)
       have HVN:Hid (∀ q,(Value.slice va (Dd prog inp).length vc).ownBlock=some q→w1.heap.size < q):=fun q hq=> Nat.lt_of_lt_of_le (HKB.out w5 HB5.out HF5.out.E5).1.lt (hv6.lt q hq).1
       clear HOU hv6 b6 HF5 HB5
       have c0:=hk6.1.get (j:=0) rfl
       have z0:=hk6.1.fz 0
       have HNX:Hid (SzR w1 (w6.setCell ⟨w1.heap.size,0,none⟩ (.slice va (Dd prog inp).length vc)) 1 (Dd prog inp)):=by
        refine⟨HB6.out.setCell (p:=⟨w1.heap.size,0,none⟩) (Nat.le_refl _) _,_,v1,hk6.1.set (k:=0) (u:=v0) _ rfl,fun _=> ⟨?_,fun q hq e=> by have:=HVN.out q hq;omega⟩,fun h=> absurd h (by omega)⟩
        exact((Ab.refl (fun q=> q=w1.heap.size) w6).setCell (p:=⟨w1.heap.size,0,none⟩) rfl _).own HV6.out fun q hq e=> by have:=(HV6.out.lt q hq).1;have:=HVN.out q hq;omega
       clear hk6 HV6 HB6 HK3 HKB HGW HSQ HB2 HBW HVN
       go_wp2
       go_roundw
       case rel=> exact⟨1,by omega,by go_num,HNX⟩
       case measure=> (simp [intOf];try omega)
      ·rw [Ar h0] at HSU
       clear HLAW HFS
       go_wp2_with fail
       refine HSU.out.mono ?_
       rintro e w4 ⟨rfl,⟨own4,G4,hf4,hfb4,hag4⟩,k4⟩
       have HB4:=Aa (HBW.out.trans ((HB2.out.trans (hf4.E5.mono HB2.out.size)).mono HBW.out.size))
       clear hf4 hfb4 hag4 k4 HSU
       go_wp2
       go_ret
       exact⟨rfl,HB4.out⟩
     ·have HNO:=Aa (HNB.out hv)
      clear HNB HNY hv
      go_wp2_with fail
      rw [←HW2.out]
      refine HNO.out.mono ?_
      rintro e w3 ⟨⟨er,her,rfl⟩,b3⟩
      have HB3:=Aa (HBW.out.trans ((HB2.out.trans (b3.mono HB2.out.size)).mono HBW.out.size))
      rw [Ar her]
      clear b3 HNO
      go_wp2
      go_ret
      exact⟨rfl,HB3.out⟩
    ·clear ho1 hbk
     have HNB:=Aa fun(hv:¬ (1≤(workers:Int)∧(workers:Int)≤4∧1≤(Ag:Int)∧(Ag:Int)≤3))=> Zr (some ⟨wr.heap.size,0,none⟩) 1 [(1,12)] workers Ag W2 (by decide) HSQ.out (.inr hv)
     have HNY:=Aa fun(hv:1≤(workers:Int)∧(workers:Int)≤4∧1≤(Ag:Int)∧(Ag:Int)≤3)=> An2 (some ⟨wr.heap.size,0,none⟩) 1 [(1,12)] workers Ag W2 HGW.out HSQ.out (fun h=> by cases h) (by decide) hv
     by_cases hv:1≤(workers:Int)∧(workers:Int)≤4∧1≤(Ag:Int)∧(Ag:Int)≤3
     ·have HNO:=Aa (HNY.out hv)
      have HFI0:Hid (E8 (F9 [(1,12)] (workers:Int).toNat (Ag:Int).toNat) 0):=Qw (by decide) (by omega) (by omega)
      have HLAW:=Aa fun h=> Xx (m:=(workers:Int).toNat) (n:=(Ag:Int).toNat) (prog:=prog) (inp:=inp) (size:=b) (by omega) (by omega) h
      have HFS:=Aa (HFI0.out.M4 0 prog inp b HPL.out HIL.out)
      have HWK4:Hid ((workers:Int).toNat≤4∧0≤(workers:Int)):=by show _∧_;omega
      clear HNB HNY hv
      generalize hFn:F9 [(1,12)] (workers:Int).toNat (Ag:Int).toNat=Fn at *
      go_wp2_with fail
      rw [←HW2.out]
      refine HNO.out.mono ?_
      rintro e w3 ⟨⟨fb,rfl,own,G,rfl,hf⟩,b3⟩
      have hsu:=Md 0 b prog inp hf HFI0.out.toInvC (Nat.le_trans (HFI0.out.lgk (by decide)) (by decide)) HPL.out HIL.out (by first | exact HA.out.2 | exact HBB.out.2)
      rw [←HTP.out,←HTI.out] at hsu
      generalize hss:Dm Fn 0 prog inp b=ss at *
      obtain⟨⟨nn,er⟩,Fs⟩:=ss
      dsimp only at hsu HLAW HFS
      have HSU:=Aa hsu
      have HB3:=Aa (HB2.out.trans (b3.mono HB2.out.size))
      have HK3:=Aa (HBK2.out.later b3)
      clear hsu hf b3 HNO hss hFn HBK2
      by_cases h0:er=0
      ·subst h0
       rw [A3] at HSU
       have hlaw:=HLAW.out rfl
       have HLW:=Aa hlaw
       clear hlaw HLAW
       go_wp2_with fail
       refine HSU.out.mono ?_
       rintro e w4 ⟨rfl,⟨own4,G4,hf4,hfb4,hag4⟩,k4⟩
       have hfin:=Afd workers HWK4.out hf4 HFS.out (by decide)
       rw [hfb4] at hfin
       have HFN:=Aa hfin
       have HB4:=Aa (HB2.out.trans (hf4.E5.mono HB2.out.size))
       have HF4:=Aa hf4
       have HFB4:=Aa hfb4
       clear hf4 hfb4 hag4 k4 hfin HSU
       go_wp2_with fail
       refine HFN.out.mono ?_
       rintro e w5 ⟨rfl,⟨own5,G5,hf5,hfb5,hag5⟩,k5⟩
       have hfi5:=Wr HFS.out.toInvM (workers:Int).toNat 1000
       have hou:=Zs 0 hf5 hfi5.toInvC
       rw [hfb5,HFB4.out,HLW.out,A3] at hou
       have HOU:=Aa hou
       have HB5:=Aa (HB2.out.trans (hf5.E5.mono HB2.out.size))
       have HF5:=Aa hf5
       clear hf5 hfb5 hag5 k5 hfi5 hou HFN HF4 HFB4
       go_wp2_with fail
       refine HOU.out.mono ?_
       rintro e w6 ⟨⟨v,rfl,hv6⟩,b6⟩
       obtain⟨va,vc,rfl⟩:=id hv6.1
       have HB6:=Aa (HB5.out.trans (b6.mono HB5.out.size))
       have hk6:=HKB.out w6 HB6.out (HF5.out.E5.trans (b6.mono HF5.out.E5.size))
       have HV6:=Aa (hv6.B6 HB5.out.size)
       have HVN:Hid (∀ q,(Value.slice va (Dd prog inp).length vc).ownBlock=some q→w1.heap.size < q):=fun q hq=> Nat.lt_of_lt_of_le (HKB.out w5 HB5.out HF5.out.E5).1.lt (hv6.lt q hq).1
       clear HOU hv6 b6 HF5 HB5
       have c0:=hk6.1.get (j:=1) rfl
       have z0:=hk6.1.fz 1
       have HNX:Hid (SzR w1 (w6.setCell ⟨w1.heap.size,1,none⟩ (.slice va (Dd prog inp).length vc)) 2 (Dd prog inp)):=by
        refine⟨HB6.out.setCell (p:=⟨w1.heap.size,1,none⟩) (Nat.le_refl _) _,v0,_,hk6.1.set (k:=1) (u:=v1) _ rfl,fun _=> ⟨?_,(hk6.2 (by omega)).2⟩,fun _=> ?_⟩
        ·exact((Ab.refl (fun q=> q=w1.heap.size) w6).setCell (p:=⟨w1.heap.size,1,none⟩) rfl _).own (hk6.2 (by omega)).1 fun q hq e=> (hk6.2 (by omega)).2 q hq e
        ·exact((Ab.refl (fun q=> q=w1.heap.size) w6).setCell (p:=⟨w1.heap.size,1,none⟩) rfl _).own HV6.out fun q hq e=> by have:=HVN.out q hq;omega
       clear hk6 HV6 HB6 HK3 HKB HGW HSQ HB2 HBW HVN
       go_wp2
       go_roundw
       case rel=> exact⟨2,by omega,by go_num,HNX⟩
       case measure=> (simp [intOf];try omega)
      ·rw [Ar h0] at HSU
       clear HLAW HFS
       go_wp2_with fail
       refine HSU.out.mono ?_
       rintro e w4 ⟨rfl,⟨own4,G4,hf4,hfb4,hag4⟩,k4⟩
       have HB4:=Aa (HBW.out.trans ((HB2.out.trans (hf4.E5.mono HB2.out.size)).mono HBW.out.size))
       clear hf4 hfb4 hag4 k4 HSU
       go_wp2
       go_ret
       exact⟨rfl,HB4.out⟩
     ·have HNO:=Aa (HNB.out hv)
      clear HNB HNY hv
      go_wp2_with fail
      rw [←HW2.out]
      refine HNO.out.mono ?_
      rintro e w3 ⟨⟨er,her,rfl⟩,b3⟩
      have HB3:=Aa (HBW.out.trans ((HB2.out.trans (b3.mono HB2.out.size)).mono HBW.out.size))
      rw [Ar her]
      clear b3 HNO
      go_wp2
      go_ret
      exact⟨rfl,HB3.out⟩
    ·obtain⟨h0,_⟩:=ho0 (by omega)
     have h1:=ho1 (by omega)
     have c0:=hbk.get (j:=0) rfl
     have c1:=hbk.get (j:=1) rfl
     obtain⟨a0,n0,rfl⟩:=id h0.1
     obtain⟨a1,n1,rfl⟩:=id h1.1
     have hsl:(Dd prog inp).length≤1000000000:=Aij prog inp
     have HST:=Aa (Tg a0 a1 n0 n1 (Dd prog inp) wr hsl (h0.sl Cc) (h1.sl Cc))
     have HBX:=Aa (HR0'.out)
     clear HKB HBK2 HB2 HGW HW2 HSQ h0 h1 hbk ho0 ho1 hsl
     go_wp2_with fail
     refine HST.out.mono ?_
     rintro e w6 ⟨rfl,b6⟩
     have HBY:=Aa (HBX.out.trans (b6.mono HBX.out.size))
     clear b6 HST c0 c1
     go_wp2
     go_ret
     exact⟨rfl,HBY.out⟩
end Go.Proofs.YtbibeionenjmfaaGreatDoor
