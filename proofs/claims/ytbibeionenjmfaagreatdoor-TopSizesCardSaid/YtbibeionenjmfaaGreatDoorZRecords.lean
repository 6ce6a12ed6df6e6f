/- Records of an input: mapper.Records, ref.RecordsOf. -/
import Derived.Test.YtbibeionenjmfaaGreatDoorZLinesLaw
import Derived.Test.YtbibeionenjmfaaGreatDoorZFolder
set_option linter.unusedSimpArgs false
set_option linter.unusedVariables false
namespace Go.Proofs.YtbibeionenjmfaaGreatDoor
open Go.RowKit
def Jf (s:List UInt8):Int:=
 if s= [] then 0 else if s.getLast?≠some 10 then 4 else if 60 < (C5 s).length then 2 else if (C5 s).any (fun l=> decide (120 < l.length))=true then 1 else 0
def Jg (s:List UInt8):List (List UInt8):=if s= []∨Jf s≠0 then [] else C5 s
theorem Adw (s:List UInt8):(C5 s).length≤s.length+1:=by
 unfold C5
 have h:=J4 10 (Et s)
 have h2:(Et s).length≤s.length:=by unfold Et;split <;> simp
 omega
theorem Adx {s l:List UInt8} (h:l∈C5 s):l.length≤s.length:=by
 unfold C5 at h
 have h1:=Uh 10 _ _ (Nat.le_refl _) l h
 have h2:(Et s).length≤s.length:=by unfold Et;split <;> simp
 omega
def Jp (s:List UInt8) (w:World) (e:Ending) (w':World):Prop:=
 (∃ lo lc,e= .returned (.tuple #[.slice lo (Jg s).length lc,Du (Jf s)])∧Sl 1 Cm w' lo ((Jg s).map tx)∧(lo=none→lc=0)∧(∀ b o,lo=some ⟨b,o,none⟩→w.heap.size≤b∧b < w'.heap.size)∧(Jg s).length≤lc)∧Below w.heap.size w w'
theorem Jp.none {s:List UInt8} {w w':World} {e:Ending} (h:Jg s= []) (he:e= .returned (.tuple #[.slice none 0 0,Du (Jf s)])) (hb:Below w.heap.size w w'):Jp s w e w':=
 ⟨⟨Option.none,0,by rw [h];exact he,by rw [h];exact Sl.nil,fun _=> rfl,fun b o e=> (by cases e),by rw [h];exact Nat.le_refl _⟩,hb⟩
theorem Agw (c:UInt8) (s:List UInt8) (w:World) (hg:GM w) (hs:s.length≤1000000):
 Calls Tryz.prog 58 #[.string (tx s), .string ⟨#[c]⟩] w fun e w'=> e= .returned (.slice (some ⟨w.heap.size,0,none⟩) (splitAt c s).length (splitAt c s).length)∧Sl 1 Cm w' (some ⟨w.heap.size,0,none⟩) ((splitAt c s).map tx)∧w.heap.size < w'.heap.size∧Below w.heap.size w w':=by
 have h:=Qf c (tx s) w hg (by rw [Am];exact hs)
 rw [Ap,List.length_map] at h
 refine h.mono ?_
 rintro e w' ⟨rfl,rfl⟩
 exact⟨rfl,Sl.lit Cc (B3 _ _) (T3 _).symm,by simp,(Below.refl _ _).alloc (Nat.le_refl _) _⟩
theorem Aio (s:List UInt8):Lib.hasSuffix s [10]=decide (s.getLast?=some 10):=by
 unfold Lib.hasSuffix
 rw [Bool.eq_iff_iff,List.isSuffixOf_iff_suffix,decide_eq_true_eq]
 constructor
 ·rintro⟨t,rfl⟩
  simp
 ·intro h
  rcases List.eq_nil_or_concat s with rfl | ⟨l,x,rfl⟩
  ·cases h
  ·rw [List.concat_eq_append,List.getLast?_concat] at h
   cases h
   exact⟨l,by simp⟩
set_option maxRecDepth 100000 in
set_option maxHeartbeats 4000000 in
theorem Z0 (s:List UInt8) (w:World) (hg:GM w) (hs:s.length≤1000000):
 Calls Tryz.prog 28 #[.string (tx s)] w (Jp s w):=by
 by_cases h0:s= []
 ·subst h0
  have t1:((tx []).toList == [])=true:=by rw [tl,Ap];rfl
  have HR:Hid (Jg []= []∧Du (Jf [])= .nilIface):=⟨rfl,rfl⟩
  go_enter Tryz.func28,Tryz.ntmps28
  go_wp2
  go_ret2
  exact Jp.none HR.out.1 (by rw [HR.out.2];rfl) (Below.refl _ _)
 have t1:((tx s).toList == [])=false:=by
  rw [tl,Ap,beq_eq_false_iff_ne];exact h0
 have HSF:Hid (∀ w',Calls Tryz.prog 57 #[.string (tx s), .string ⟨#[10]⟩] w' fun e w''=> e= .returned (.bool (decide (s.getLast?=some 10)))∧w''=w'):=fun w'=> by
  have h:=Tryz.strings_HasSuffix (tx s) ⟨#[10]⟩ w' (by rw [Am];omega)
  have e10:(⟨#[10]⟩:ByteArray).data.toList= [10]:=rfl
  rw [Ap,e10,Aio] at h
  exact h
 obtain⟨sb,hsb⟩:∃ sb,decide (s.getLast?=some 10)=sb:=⟨_,rfl⟩
 rw [hsb] at HSF
 cases sb with
 | false=>
   have hl:s.getLast?≠some 10:=by simpa using hsb
   have HR:Hid (Jf s=4∧Jg s= []):=by
    have h1:Jf s=4:=by unfold Jf;rw [if_neg h0,if_pos hl]
    exact⟨h1,by unfold Jg;rw [h1];simp⟩
   clear hl hsb h0
   go_enter Tryz.func28,Tryz.ntmps28
   go_wp2_with fail
   refine(HSF.out w).mono ?_
   rintro e w1 ⟨rfl,rfl⟩
   go_wp2
   go_ret2
   exact Jp.none HR.out.2 (by rw [HR.out.1];rfl) (Below.refl _ _)
 | true=>
 have hl:s.getLast?=some 10:=by simpa using hsb
 have HT:Hid (∀ w',Calls Tryz.prog 59 #[.string (tx s), .string ⟨#[10]⟩] w' fun e w''=> e= .returned (.string (tx (Et s)))∧w''=w'):=fun w'=> by
  have h:=Tryz.strings_TrimSuffix (tx s) ⟨#[10]⟩ w' (by rw [Am];omega)
  have e10:(⟨#[10]⟩:ByteArray).data.toList= [10]:=rfl
  rw [Ap,e10,X7] at h
  exact h
 have htl:(Et s).length≤1000000:=by unfold Et;split <;> (try simp) <;> omega
 have HSP:=Aa (Agw 10 (Et s) w hg htl)
 have hL0:C5 s=splitAt 10 (Et s):=rfl
 have hll:=Adw s
 have HM:=Aa fun l (h:l∈C5 s)=> Adx h
 have HRF:Hid (Jf s=if 60 < (C5 s).length then 2 else if (C5 s).any (fun l=> decide (120 < l.length))=true then 1 else 0):=by
  show _=_
  unfold Jf;rw [if_neg h0,if_neg (by rw [hl];simp)]
 have HRL:Hid (Jg s=if Jf s≠0 then [] else C5 s):=by
  show _=_
  unfold Jg
  by_cases h:Jf s≠0
  ·rw [if_pos (.inr h),if_pos h]
  ·rw [if_neg (fun h2=> h2.elim h0 h),if_neg h]
 rw [←hL0] at HSP
 generalize C5 s=LS at *
 clear hL0 hl hsb h0 hg
 go_enter Tryz.func28,Tryz.ntmps28
 go_wp2_with fail
 refine(HSF.out w).mono ?_
 rintro e w1 ⟨rfl,rfl⟩
 clear HSF
 go_wp2_with fail
 refine(HT.out _).mono ?_
 rintro e w2 ⟨rfl,rfl⟩
 clear HT t1
 go_wp2_with fail
 refine HSP.out.mono ?_
 rintro e w3 ⟨rfl,hsl,hlt,hb⟩
 have HSL:=Aa hsl
 have HB:=Aa hb
 have HLT:=Aa hlt
 clear hsl hb hlt HSP htl
 by_cases h60:60 < LS.length
 ·have g1:decide ((60:Int) < (LS.length:Int))=true:=by simp;omega
  have HR2:Hid (Jf s=2∧Jg s= []):=by
   have h1:Jf s=2:=by rw [HRF.out,if_pos h60]
   exact⟨h1,by rw [HRL.out,h1];rfl⟩
  clear HRF HRL h60
  go_wp2
  go_ret2
  exact Jp.none HR2.out.2 (by rw [HR2.out.1];rfl) HB.out
 have g1:decide ((60:Int) < (LS.length:Int))=false:=by simp;omega
 obtain⟨xb,hxb⟩:∃ xb,w2.heap.size=xb:=⟨_,rfl⟩
 have HXB:=Aa hxb
 rw [hxb] at HSL ⊢
 clear hxb
 go_wp2
 go_loopw [22] (fun iv wr=> ∃ k:Nat,k≤LS.length∧iv= .int .i64 k∧wr=w3∧Hid (∀ (i:Nat) l,i < k→LS[i]?=some l→l.length≤120)) (fun iv _=> LS.length - (intOf iv).toNat)
 case atStart=> exact⟨0,by omega,rfl,rfl,fun i l h=> by omega⟩
 case round=>
  obtain⟨k,hk,rfl,rfl,HOK⟩:=hrel
  by_cases hlt:k < LS.length
  ·obtain⟨b,off,x0,e1,hbw,hx0,c0⟩:=HSL.out.str (k:=k) (by rw [List.length_map];exact hlt)
   cases e1
   rw [Nat.zero_add] at c0
   obtain⟨x,hx,rfl⟩:∃ x,LS[k]?=some x∧x0=tx x:=by
    rw [List.getElem?_map] at hx0
    obtain⟨a,ha,e⟩:=Option.map_eq_some_iff.1 hx0
    exact⟨a,ha,e.symm⟩
   have f1:(0:Int)≤(k:Int)∧(k:Int) < (LS.length:Int):=by omega
   obtain⟨f1,f2⟩:=f1
   have hxs:(tx x).size=x.length:=Am x
   have HX:=Aa hx
   by_cases h12:120 < x.length
   ·have g3:decide ((120:Int) < ((tx x).size:Int))=true:=by rw [hxs];simp;omega
    have g4:decide ((120:Int) < (x.length:Int))=true:=by simp;omega
    have HR1:Hid (Jf s=1∧Jg s= []):=by
     have h1:Jf s=1:=by
      rw [HRF.out,if_neg h60,if_pos]
      rw [List.any_eq_true]
      exact⟨x,List.mem_of_getElem? HX.out,by simpa using h12⟩
     exact⟨h1,by rw [HRL.out,h1];rfl⟩
    clear hx hx0 HRF HRL h12
    go_wp2
    go_ret2
    exact Jp.none HR1.out.2 (by rw [HR1.out.1];rfl) HB.out
   ·have g3:decide ((120:Int) < ((tx x).size:Int))=false:=by rw [hxs];simp;omega
    have g4:decide ((120:Int) < (x.length:Int))=false:=by simp;omega
    have HOK2:Hid (∀ (i:Nat) l,i < k+1→LS[i]?=some l→l.length≤120):=fun i l hi hl=> by
     by_cases e:i=k
     ·subst e;rw [HX.out] at hl;cases hl;omega
     ·exact HOK.out i l (by omega) hl
    clear hx hx0 h12 HOK
    go_wp2
    go_roundw
    case rel=> exact⟨k+1,by omega,by go_num,by trivial,HOK2⟩
    case measure=> (simp [intOf];try omega)
  ·obtain rfl:k=LS.length:=by omega
   have g3:decide (LS.length < LS.length)=false:=by simp
   have g4:decide ((LS.length:Int) < (LS.length:Int))=false:=by simp
   have HR0:Hid (Jf s=0∧Jg s=LS):=by
    have h1:Jf s=0:=by
     rw [HRF.out,if_neg h60,if_neg]
     rw [List.any_eq_true]
     rintro⟨l,hl,h⟩
     obtain⟨i,hi⟩:=List.mem_iff_getElem?.1 hl
     have h3:=HOK.out i l (List.getElem?_eq_some_iff.1 hi).1 hi
     rw [decide_eq_true_eq] at h
     omega
    exact⟨h1,by rw [HRL.out,h1];rfl⟩
   clear HRF HRL HOK
   go_wp2
   go_ret2
   exact⟨⟨some ⟨xb,0,none⟩,LS.length,by rw [HR0.out.1,HR0.out.2];rfl,by rw [HR0.out.2];exact HSL.out,fun h=> (by cases h),fun b o e=> (by cases e;have h1:=HXB.out;have h2:=HLT.out;exact⟨by omega,by omega⟩),by rw [HR0.out.2];exact Nat.le_refl _⟩,HB.out⟩
end Go.Proofs.YtbibeionenjmfaaGreatDoor
