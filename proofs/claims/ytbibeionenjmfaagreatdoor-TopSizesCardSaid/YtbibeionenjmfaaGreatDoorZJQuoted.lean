/- A reader of a line: a text in '"'. -/
import Derived.Lib.BufferRead
import Derived.Test.YtbibeionenjmfaaGreatDoorZJRead
set_option linter.unusedSimpArgs false
set_option linter.unusedVariables false
namespace Go.Proofs.YtbibeionenjmfaaGreatDoor
open Go.RowKit
def Wq (b:UInt8):List Value:= [.int .u8 (b.toNat:Int)]
theorem Iy (b:UInt8):(Wq b).length=1:=rfl
theorem Ad9:∀ x,∀ u∈Wq x,u.oneCell'=true:=fun x u h=> by simp [Wq] at h;subst h;rfl
theorem Ani (d:UInt8) (l:List UInt8):Gn (92::d::l)=(Gn l).map fun p=> (d::p.1,p.2):=by rw [Gn,if_pos rfl]
theorem Anh (l:List UInt8):Gn (34::l)=some ([],l):=by
 cases l with
 | nil=> rfl
 | cons d l=> rw [Gn,if_neg (by decide),if_pos rfl]
theorem Aek {c:UInt8} (h34:c≠34) (l:List UInt8) (h92:c≠92∨l= []):Gn (c::l)=(Gn l).map fun p=> (c::p.1,p.2):=by
 cases l with
 | nil=> simp [Gn,h34]
 | cons d l=>
   rcases h92 with h92 | h92
   ·rw [Gn,if_neg h92,if_neg h34]
   ·cases h92
def QAt (s:List UInt8) (i:Nat) (acc:List UInt8):Prop:=Gn (s.drop 1)=(Gn (s.drop i)).map fun p=> (acc++p.1,p.2)
theorem QAt.start (s:List UInt8):QAt s 1 []:=by unfold QAt;cases Gn (s.drop 1) <;> simp
theorem QAt.more {s:List UInt8} {i j:Nat} {acc:List UInt8} {c:UInt8} (h:QAt s i acc) (hs:Gn (s.drop i)=(Gn (s.drop j)).map fun p=> (c::p.1,p.2)):QAt s j (acc++ [c]):=by
 unfold QAt at *
 rw [h,hs]
 cases Gn (s.drop j) <;> simp
theorem U2 {s:List UInt8} (h: [34].isPrefixOf s=false):Bz s=([],s,true):=by
 cases s with
 | nil=> rfl
 | cons c l=>
   have:c≠34:=fun e=> by subst e;simp [List.isPrefixOf] at h
   unfold Bz
   simp [this]
theorem Pq {s:List UInt8} (h: [34].isPrefixOf s=true) (hq:Gn (s.drop 1)=none):Bz s=([],s,true):=by
 cases s with
 | nil=> simp [List.isPrefixOf] at h
 | cons c l=>
   have:c=34:=by simp [List.isPrefixOf] at h;exact h.symm
   subst this
   have hq2:Gn l=none:=hq
   unfold Bz
   simp [hq2]
theorem Ps {s t r:List UInt8} (h: [34].isPrefixOf s=true) (hq:Gn (s.drop 1)=some (t,r)):Bz s=(t,Ay [] r,!B5 [] r && !r.isEmpty):=by
 cases s with
 | nil=> simp [List.isPrefixOf] at h
 | cons c l=>
   have:c=34:=by simp [List.isPrefixOf] at h;exact h.symm
   subst this
   have hq2:Gn l=some (t,r):=hq
   unfold Bz
   simp only [hq2,if_true]
   cases r with
   | nil=> rfl
   | cons d r=>
     by_cases hd:d=32
     ·subst hd;simp [Ay,B5]
     ·have:(32 ==d)=false:=by simp;exact fun e=> hd e.symm
      simp [Ay,B5,List.isPrefixOf,hd,this]
theorem Ao0:(Tryz.prog.info? 5).map (fun i=> (i.zero,i.size,i.bytes))=some (some (.int .u8 0),1,1):=by kernel_rfl
theorem Own.string {w:World} {base cap:Nat} {ao:Option Addr} {l:List UInt8} (h:Own 1 Wq 5 w base (.slice ao l.length cap) l):(convert 220 9 (.slice ao l.length cap)).run Tryz.prog w= .ok (.string (tx l)) w:=by
 rcases h.shape with ⟨e,rfl⟩ | ⟨g,c,e,_,_,_⟩
 ·cases e
  exact Lib.run_convert_nil_bytes w _ _ 5 0 Tryz.underlying220 Tryz.underlying5 Tryz.underlying9
 ·cases e
  refine run_convert_bytes_back w _ _ 5 ⟨g,0,none⟩ cap l Tryz.underlying220 Tryz.underlying5 Tryz.underlying9 fun j hj=> ?_
  have h1:=Sl.cells Iy (by decide) (h.sl Iy) j (.int .u8 (l[j].toNat:Int)) (by
   have:=H4 Iy (l:=l) (i:=j) (x:=l[j]) (j:=0) (List.getElem?_eq_getElem hj) rfl
   simpa using this)
  exact h1
theorem Aei {W wr w5:World} {rb:Nat} {s:List UInt8} {bad:Bool} {v:Value} {acc:List UInt8} {o:Obj} (hlt:rb < W.heap.size) (ho:Own 1 Wq 5 wr W.heap.size v acc) (hr:Rd wr rb s bad) (hk:Ab (fun q=> q=rb) W wr) (hg:(wr.alloc o).grownBy w5 v.ownBlock):
 Rd w5 rb s bad∧Ab (fun q=> q=rb) W w5:=
 ⟨Bk.kept (hr.later ((Below.refl _ _).alloc (Nat.le_refl _) o)) (Ab.A9 (S:=fun q=> v.ownBlock=some q) hg fun k e=> e) (fun e=> by have:=(ho.lt rb e).1;omega),(hk.alloc o).grown hg fun q e=> (ho.lt q e).1⟩
set_option maxRecDepth 100000 in
set_option maxHeartbeats 4000000 in
theorem Sf (rb:Nat) (s:List UInt8) (bad:Bool) (w:World) (h:Rd w rb s bad) (hs:s.length≤100000):
 Calls Tryz.prog 139 #[.pointer (some ⟨rb,0,none⟩)] w fun e w'=> (e= .returned (.string (tx (Bz s).1))∧Rd w' rb (Bz s).2.1 (bad || (Bz s).2.2))∧Ab (fun q=> q=rb) w w':=by
 obtain⟨i0,hi0,hz0,hz1,hz2⟩:=info_parts Ao0
 have HC:=Aa (Tryz.strings_HasPrefix (tx s) ⟨#[34]⟩ w)
 have e1:(⟨#[34]⟩:ByteArray).data.toList= [34]:=rfl
 rw [Ap,e1,show Lib.hasPrefix s [34]= [34].isPrefixOf s from rfl] at HC
 clear e1
 obtain⟨pb,hpb⟩:∃ pb, [34].isPrefixOf s=pb:=⟨_,rfl⟩
 rw [hpb] at HC
 have HR:=Aa h
 have c0:=h.s
 have z0:=Bk.fz h 0
 have c1:=h.bad
 have z1:=Bk.fz h 1
 cases pb with
 | false=>
   have HQ:=Aa (U2 hpb)
   have HK:=Aa (Ub (rb:=rb) (Below.refl w.heap.size w) 1 (.bool true))
   clear hpb h
   go_enter Tryz.func139,Tryz.ntmps139
   go_wp2_with fail
   refine HC.out.mono ?_
   rintro e w1 ⟨rfl,rfl⟩
   go_wp2
   go_ret
   rw [HQ.out,Bool.or_true]
   exact⟨⟨rfl,HR.out.E9 true⟩,HK.out⟩
 | true=>
   have HPB:=Aa hpb
   clear hpb h c0 c1 z0 z1
   obtain⟨S,hS⟩:∃ S:ByteArray,tx s=S:=⟨_,rfl⟩
   have hsz:S.size=s.length:=by rw [←hS,Am]
   have HSZ:=Aa hsz
   have HGET:Hid (∀ (k:Nat) (hk:k < S.size),s[k]?=some S[k]∧s.drop k=S[k]::s.drop (k+1)):=fun k hk=> by
    have hk2:k < s.length:=by omega
    have e:s[k]=S[k]:=by subst hS;rfl
    exact⟨by rw [List.getElem?_eq_getElem hk2,e],by rw [List.drop_eq_getElem_cons hk2,e]⟩
   have HSS:=Aa hS
   rw [hS] at HC
   have c0:=HR.out.s
   rw [hS] at c0
   have HLT:Hid (rb < w.heap.size):=Bk.lt HR.out
   have hbw:=hs
   rw [←hsz] at hbw
   clear hS hsz hs
   go_enter Tryz.func139,Tryz.ntmps139
   go_wp2_with fail
   refine HC.out.mono ?_
   rintro e w1 ⟨rfl,rfl⟩
   clear HC
   go_wp2
   clear c0
   obtain⟨W,rfl⟩:∃ W,W=w1:=⟨_,rfl⟩
   go_loopw [3,4] (fun bv iv wr=> ∃ (acc:List UInt8) (i:Nat),1≤i∧i≤S.size∧acc.length≤i∧iv= .int .i64 i∧Hid (QAt s i acc)∧Hid (Own 1 Wq 5 wr W.heap.size bv acc)∧Hid (Rd wr rb s bad)∧Hid (Ab (fun q=> q=rb) W wr)) (fun _ iv _=> S.size - (intOf iv).toNat)
   case atStart=>
    refine⟨[],1,by omega,?_,by simp,by go_num,QAt.start s,Own.nil,HR.out,Ab.refl _ _⟩
    have h1:=HPB.out
    rw [HSZ.out]
    cases s with
    | nil=> simp [List.isPrefixOf] at h1
    | cons c l=> simp
   case round=>
    clear HR
    obtain⟨acc,k,hk1,hk,hal,rfl,HQ,HO,HR,HK⟩:=hrel
    have c0:=HR.out.s
    rw [HSS.out] at c0
    have HBS:Hid (W.heap.size≤wr.heap.size):=HK.out.size
    by_cases hlt:k < S.size
    ·obtain⟨hg1,hg2⟩:=HGET.out k hlt
     have f1:(0:Int)≤(k:Int)∧(k:Int) < (S.size:Int):=by omega
     obtain⟨f1,f2⟩:=f1
     obtain⟨xa,xc,rfl⟩:=id HO.out.1
     have HXL:Hid (acc.length+1≤1000000000):=by show _≤_;omega
     have HAL:Hid (W.heap.size≤(wr.alloc (.cells #[.int .u8 (S[k].toNat:Int)] 5)).heap.size):=by have:=HBS.out;show _≤_;simp;omega
     by_cases h92:S[k]=92∧k+1 < S.size
     ·obtain⟨h9,hlt2⟩:=h92
      obtain⟨hg3,hg4⟩:=HGET.out (k+1) hlt2
      have HQ2:Hid (QAt s (k+2) (acc++ [S[k+1]])):=HQ.out.more (by rw [hg2,hg4,h9,Ani])
      have HOA:=Aa (HO.out.alloc (.cells #[.int .u8 (S[k+1].toNat:Int)] 5))
      have HAL2:Hid (W.heap.size≤(wr.alloc (.cells #[.int .u8 (S[k+1].toNat:Int)] 5)).heap.size):=by have:=HBS.out;show _≤_;simp;omega
      have g1:((S[k].toNat:Int) ==92)=true:=by rw [h9];rfl
      have g2:decide ((k:Int)+1 < (S.size:Int))=true:=by simp;omega
      have f3:(0:Int)≤(k:Int)+1∧(k:Int)+1 < (S.size:Int):=by omega
      obtain⟨f3,f4⟩:=f3
      clear hg1 hg2 hg3 hg4 h9
      go_wp2_with (at_builtin;refine Bi Iy _ _ 220 i0 _ rfl rfl Tryz.underlying220 hi0 hz0 hz1 hz2 rfl (by decide) (by decide) HOA.out (Below.refl _ _) HAL2.out HXL.out rfl S[k+1] ⟨wr.heap.size,0,none⟩ 1 rfl (Fc rfl rfl) (Ad9 _) ?_)
      intro v' w5 ho hb hg hat
      obtain⟨hr5,hk5⟩:=Aei HLT.out HO.out HR.out HK.out hg
      have HO5:=Aa ho
      have HR5:=Aa hr5
      have HK5:=Aa hk5
      clear ho hb hg hat hr5 hk5
      go_wp2
      go_roundw
      case rel=> exact⟨acc++ [S[k+1]],k+2,by omega,by omega,by simp;omega,by go_num,HQ2,HO5,HR5,HK5⟩
      case measure=> (simp [intOf];try omega)
     ·by_cases h34:S[k]=34
      ·have HQS:Hid (Gn (s.drop 1)=some (acc,s.drop (k+1))):=by
        show _=_
        have:=HQ.out
        unfold QAt at this
        rw [this,hg2,h34,Anh]
        simp
       have HX:=Aa (Ps HPB.out HQS.out)
       have HEX:Hid (S.extract (k+1) S.size=tx (s.drop (k+1))):=by
        show _=_
        rw [←Af4,←HSS.out,Ap]
       have hrl:(s.drop (k+1)).length≤s.length:=by rw [List.length_drop];omega
       have HST:=Aa HO.out.string
       generalize hrr:s.drop (k+1)=r at *
       have HCP:=Aa (Tryz.strings_CutPrefix (tx r) ⟨#[32]⟩ wr)
       have e1:(⟨#[32]⟩:ByteArray).data.toList= []++ [32]:=rfl
       rw [Ap,e1,show Lib.hasPrefix r ([]++ [32])=B5 [] r from rfl,show(⟨(Lib.trimPrefix r ([]++ [32])).toArray⟩:ByteArray)=tx (Ay [] r) from rfl] at HCP
       have HNF:Hid (B5 [] r=false→Ay [] r=r):=fun hn=> by
        unfold Ay
        rw [if_neg (by rw [hn];decide)]
       have g1:((S[k].toNat:Int) ==92)=false:=by rw [h34];rfl
       have g2:((S[k].toNat:Int) ==34)=true:=by rw [h34];rfl
       have c1:=HR.out.bad
       have z0:=Bk.fz HR.out 0
       have z1:=Bk.fz HR.out 1
       obtain⟨T,hT⟩:∃ T,Ay [] r=T:=⟨_,rfl⟩
       obtain⟨nb,hnb⟩:∃ nb,B5 [] r=nb:=⟨_,rfl⟩
       rw [hT,hnb] at HCP HX HNF
       have n1:IntKind.i64.wrap ((k:Int)+1)=(k:Int)+1:=IntWalk.i64_in _ (by omega)
       have f3:(0:Int)≤(k:Int)+1∧(k:Int)+1≤(S.size:Int):=by omega
       obtain⟨f3,f4⟩:=f3
       clear hg1 hg2 h92 h34 hrr hrl e1 hT hnb
       have hst:∀ v1 v0:Value,(convert 220 9 (.slice xa acc.length xc)).run Tryz.prog ((wr.setCell ⟨rb,1,none⟩ v1).setCell ⟨rb,0,none⟩ v0)= .ok (.string (tx acc)) ((wr.setCell ⟨rb,1,none⟩ v1).setCell ⟨rb,0,none⟩ v0):=fun v1 v0=> by
        have hne:(Value.slice xa acc.length xc).ownBlock≠some rb:=fun e=> by have h1:=(HO.out.lt rb e).1;have h2:=HLT.out;omega
        exact((HO.out.setOther hne v1).setOther hne v0).string
       have HKF:Hid (∀ v1 v0:Value,Ab (fun q=> q=rb) W ((wr.setCell ⟨rb,1,none⟩ v1).setCell ⟨rb,0,none⟩ v0)):=fun v1 v0=> (HK.out.setCell (p:=⟨rb,1,none⟩) rfl v1).setCell (p:=⟨rb,0,none⟩) rfl v0
       clear HST HAL HO
       cases nb with
       | true=>
         have HX2:Hid (Bz s=(acc,T,false)):=by show _=_;rw [HX.out];rfl
         clear HX HNF
         cases bad with
         | true=>
           go_wp2_with (go_at_call 149;rw [HEX.out];refine HCP.out.mono ?_;rintro e w6 ⟨rfl,rfl⟩)
           go_ret
           rw [HX2.out]
           exact⟨⟨rfl,(HR.out.E9 true).Ic T⟩,HKF.out _ _⟩
         | false=>
           go_wp2_with (go_at_call 149;rw [HEX.out];refine HCP.out.mono ?_;rintro e w6 ⟨rfl,rfl⟩)
           go_ret
           rw [HX2.out]
           exact⟨⟨rfl,(HR.out.E9 false).Ic T⟩,HKF.out _ _⟩
       | false=>
         have hTr:r=T:=(HNF.out rfl).symm
         subst hTr
         obtain⟨em,hem⟩:∃ em,r.isEmpty=em:=⟨_,rfl⟩
         have HX2:Hid (Bz s=(acc,r,!em)):=by show _=_;rw [HX.out,hem];rfl
         have m1:(tx r).toList.isEmpty=em:=by rw [tl,Ap];exact hem
         have m2:((tx r).toList == [])=em:=by rw [tl,Ap,←hem];cases r <;> rfl
         clear HX HNF hem
         cases bad with
         | true=>
           go_wp2_with (go_at_call 149;rw [HEX.out];refine HCP.out.mono ?_;rintro e w6 ⟨rfl,rfl⟩)
           go_ret
           rw [HX2.out]
           exact⟨⟨rfl,(HR.out.E9 true).Ic r⟩,HKF.out _ _⟩
         | false=>
           cases em with
           | true=>
             have m3:(tx r).toList= []:=List.isEmpty_iff.1 m1
             go_wp2_with (go_at_call 149;rw [HEX.out];refine HCP.out.mono ?_;rintro e w6 ⟨rfl,rfl⟩)
             go_ret
             rw [HX2.out]
             exact⟨⟨rfl,(HR.out.E9 false).Ic r⟩,HKF.out _ _⟩
           | false=>
             go_wp2_with (go_at_call 149;rw [HEX.out];refine HCP.out.mono ?_;rintro e w6 ⟨rfl,rfl⟩)
             go_ret
             rw [HX2.out]
             exact⟨⟨rfl,(HR.out.E9 true).Ic r⟩,HKF.out _ _⟩
      ·have HQ2:Hid (QAt s (k+1) (acc++ [S[k]])):=HQ.out.more (by
        rw [hg2]
        refine Aek h34 _ ?_
        by_cases h9:S[k]=92
        ·exact .inr (List.drop_eq_nil_of_le (by have:=HSZ.out;have h5:¬ k+1 < S.size:=fun h=> h92 ⟨h9,h⟩;omega))
        ·exact .inl h9)
       have HOA:=Aa (HO.out.alloc (.cells #[.int .u8 (S[k].toNat:Int)] 5))
       have g3:((S[k].toNat:Int) ==34)=false:=by rw [beq_eq_false_iff_ne];intro e;exact h34 (UInt8.toNat_inj.1 (by have:(34:UInt8).toNat=34:=rfl;omega))
       by_cases h9:S[k]=92
       ·have g1:((S[k].toNat:Int) ==92)=true:=by rw [h9];rfl
        have g2:decide ((k:Int)+1 < (S.size:Int))=false:=by have h5:¬ k+1 < S.size:=fun h=> h92 ⟨h9,h⟩;simp;omega
        clear hg1 hg2 h34 h9 h92
        go_wp2_with (at_builtin;refine Bi Iy _ _ 220 i0 _ rfl rfl Tryz.underlying220 hi0 hz0 hz1 hz2 rfl (by decide) (by decide) HOA.out (Below.refl _ _) HAL.out HXL.out rfl S[k] ⟨wr.heap.size,0,none⟩ 1 rfl (Fc rfl rfl) (Ad9 _) ?_)
        intro v' w5 ho hb hg hat
        obtain⟨hr5,hk5⟩:=Aei HLT.out HO.out HR.out HK.out hg
        have HO5:=Aa ho
        have HR5:=Aa hr5
        have HK5:=Aa hk5
        clear ho hb hg hat hr5 hk5
        go_wp2
        go_roundw
        case rel=> exact⟨acc++ [S[k]],k+1,by omega,by omega,by simp;omega,by go_num,HQ2,HO5,HR5,HK5⟩
        case measure=> (simp [intOf];try omega)
       ·have g1:((S[k].toNat:Int) ==92)=false:=by rw [beq_eq_false_iff_ne];intro e;exact h9 (UInt8.toNat_inj.1 (by have:(92:UInt8).toNat=92:=rfl;omega))
        clear hg1 hg2 h34 h9 h92
        go_wp2_with (at_builtin;refine Bi Iy _ _ 220 i0 _ rfl rfl Tryz.underlying220 hi0 hz0 hz1 hz2 rfl (by decide) (by decide) HOA.out (Below.refl _ _) HAL.out HXL.out rfl S[k] ⟨wr.heap.size,0,none⟩ 1 rfl (Fc rfl rfl) (Ad9 _) ?_)
        intro v' w5 ho hb hg hat
        obtain⟨hr5,hk5⟩:=Aei HLT.out HO.out HR.out HK.out hg
        have HO5:=Aa ho
        have HR5:=Aa hr5
        have HK5:=Aa hk5
        clear ho hb hg hat hr5 hk5
        go_wp2
        go_roundw
        case rel=> exact⟨acc++ [S[k]],k+1,by omega,by omega,by simp;omega,by go_num,HQ2,HO5,HR5,HK5⟩
        case measure=> (simp [intOf];try omega)
    ·obtain rfl:k=S.size:=by omega
     have HX:=Aa (Pq HPB.out (by
      have:=HQ.out
      unfold QAt at this
      rw [this,List.drop_eq_nil_of_le (by have:=HSZ.out;omega)]
      rfl))
     have g1:decide ((S.size:Int) < (S.size:Int))=false:=by simp
     have z1:=Bk.fz HR.out 1
     have c1:=HR.out.bad
     have HK2:=Aa (HK.out.setCell (p:=⟨rb,1,none⟩) rfl (.bool true))
     go_wp2
     go_ret
     rw [HX.out,Bool.or_true]
     exact⟨⟨rfl,HR.out.E9 true⟩,HK2.out⟩
end Go.Proofs.YtbibeionenjmfaaGreatDoor
