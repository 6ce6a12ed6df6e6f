/- Pairs sorted in place: the stable sort; order.Sort. -/
import Derived.Test.YtbibeionenjmfaaGreatDoorZSort5
set_option linter.unusedSimpArgs false
set_option linter.unusedVariables false
namespace Go.Proofs.YtbibeionenjmfaaGreatDoor
open Go.RowKit
theorem Iv (n cap g:Nat) (hn:n≤1000000000):∀ N a m b,b - a≤N→Al9 n cap g a m b
 | 0,a,m,b,hN=> fun l w base h ham hmb _ _ _=> by omega
 | N+1,a,m,b,hN=> fun l w base h ham hmb hbn hl hr=> by
   by_cases h1:m=a+1
   ·exact Ali a m b n cap g l h hn h1 hmb hbn hr
   ·by_cases h2:b=m+1
    ·exact Air a m b n cap g l h hn h2 (by omega) hbn hl
    ·exact Anv n cap g a m b hn (fun s mid _ _ _=> Iv n cap g hn N a s mid (by omega)) (fun mid e _ _ _=> Iv n cap g hn N mid e b (by omega)) (by omega) (by omega) l w base h ham hmb hbn hl hr
set_option maxHeartbeats 4000000 in
theorem Aeq (n cap g:Nat) (l:List Pr) {w:World} {base:Nat} (h:Dh w base g n cap l) (hn:n≤1000000000):
 Calls Tryz.prog 186 #[.slice (some ⟨g,0,none⟩) n cap, .int .i64 n, .func (.func 159) #[] #[]] w fun e w'=> e= .returned (.tuple #[])∧Ab (fun q=> q=g) w w'∧Dh w' base g n cap (Dz l):=by
 have hlen:=Aa h.len
 have H:=Aa h;clear h
 go_enter Tryz.func186,Tryz.ntmps186
 go_wp2
 go_loopw [7,8] (fun p q wr=> ∃ a:Nat,∃ cur,p= .int .i64 a∧q= .int .i64 ((a:Int)+20)∧a≤n∧Hid (Ph1 20 cur a∧cur.length=n∧B9 cur l)∧Ab (fun q=> q=g) w wr∧Dh wr base g n cap cur) (fun p _ _=> n - (intOf p).toNat)
 case atStart=> exact⟨0,l,by go_num,by go_num,by omega,⟨Ph1.start _ _,hlen.out.symm,B9.refl _⟩,Ab.refl _ _,H.out⟩
 case round=>
  obtain⟨a,cur,rfl,rfl,ha,HP,hkb,hown⟩:=hrel
  by_cases hb:a+20≤n
  ·obtain⟨p1,p2,p3⟩:=HP.out
   have HP':Hid (Ph1 20 (Av cur a (a+20)) (a+20)∧(Av cur a (a+20)).length=n∧B9 (Av cur a (a+20)) l):=⟨p1.step (by omega) (by omega),by rw [Ie cur (by omega) (by omega)];exact p2,(Iu cur (by omega) (by omega)).trans p3⟩
   have HC:=Aa (N3 a (a+20) n cap g cur hown hn (by omega) hb)
   have HKB:=Aa hkb
   clear p1 p2 p3 HP hkb hown
   go_wp2_with fail
   rw [show((a:Int)+20)=((a+20:Nat):Int) from by omega]
   with_reducible refine HC.out.mono ?_
   rintro e w1 ⟨rfl,k1,o1⟩
   have HK:=Aa (HKB.out.trans k1)
   have HO:=Aa o1
   clear k1 o1 HC HKB
   go_wp2
   go_roundw
   case rel=> exact⟨a+20,_,rfl,by go_num,by omega,HP',HK.out,HO.out⟩
   case measure=> (simp [intOf];try omega)
  ·obtain⟨p1,p2,p3⟩:=HP.out
   have HB:Hid (Blk 20 (Av cur a n)∧(Av cur a n).length=n∧B9 (Av cur a n) l):=⟨p1.last (by omega) p2 ha (by omega),by rw [Ie cur ha (by omega)];exact p2,(Iu cur ha (by omega)).trans p3⟩
   have HC:=Aa (N3 a n n cap g cur hown hn ha (Nat.le_refl _))
   have HKB:=Aa hkb
   have f1:decide ((a:Int)+20≤(n:Int))=false:=by simp;omega
   clear p1 p2 p3 HP hkb hown
   go_wp2_with fail
   with_reducible refine HC.out.mono ?_
   rintro e w1 ⟨rfl,k1,o1⟩
   have HK:=Aa (HKB.out.trans k1)
   have HO:=Aa o1
   clear k1 o1 HC HKB
   go_wp2
   go_loopw [6] (fun p wr=> ∃ bs:Nat,∃ cur,p= .int .i64 bs∧20≤bs∧bs≤2000000000∧Hid (Blk bs cur∧cur.length=n∧B9 cur l)∧Ab (fun q=> q=g) w wr∧Dh wr base g n cap cur) (fun p _=> n - (intOf p).toNat)
   case atStart=> exact⟨20,_,by go_num,by omega,by omega,HB,HK.out,HO.out⟩
   clear HB HK HO f1
   case round=>
    obtain⟨bs,cur,rfl,hbs,hbs2,HB,hkb,hown⟩:=hrel
    by_cases hlt:bs < n
    ·have HB2:=HB
     have HKB:=Aa hkb
     have HOWN:=Aa hown
     have f2:decide ((bs:Int) < (n:Int))=true:=by simp;omega
     have f2':decide (bs < n)=true:=by simpa using hlt
     clear hkb hown HB
     obtain⟨wo,hwo⟩:∃ wo:World,wo=wr:=⟨wr,rfl⟩
     subst hwo
     go_wp2
     go_loopw [7,8] (fun p q wr=> ∃ a:Nat,∃ cur,p= .int .i64 a∧q= .int .i64 ((a:Int)+2 * bs)∧a≤n∧Hid (Zz bs cur a∧cur.length=n∧B9 cur l)∧Ab (fun q=> q=g) w wr∧Dh wr base g n cap cur) (fun p _ _=> n - (intOf p).toNat)
     case atStart=>
      obtain⟨p1,p2,p3⟩:=HB2.out
      exact⟨0,cur,by go_num,by go_num,by omega,⟨Zz.start p1,p2,p3⟩,HKB.out,HOWN.out⟩
     clear HB2 HKB HOWN
     case round=>
      obtain⟨a,cur,rfl,rfl,ha,HP,hkb,hown⟩:=hrel
      by_cases hb:a+2 * bs≤n
      ·obtain⟨p1,p2,p3⟩:=HP.out
       have HP':Hid (Zz bs (Av cur a (a+2 * bs)) (a+2 * bs)∧(Av cur a (a+2 * bs)).length=n∧B9 (Av cur a (a+2 * bs)) l):=⟨p1.step (by omega) (by omega),by rw [Ie cur (by omega) (by omega)];exact p2,(Iu cur (by omega) (by omega)).trans p3⟩
       have HC:=Aa (Iv n cap g hn _ a (a+bs) (a+2 * bs) (Nat.le_refl _) cur wr base hown (by omega) (by omega) hb p1.two.1 p1.two.2)
       have HKB:=Aa hkb
       clear p1 p2 p3 HP hkb hown
       go_wp2_with fail
       rw [show((a:Int)+2 * bs)=((a+2 * bs:Nat):Int) from by omega,show((a:Int)+bs)=((a+bs:Nat):Int) from by omega]
       with_reducible refine HC.out.mono ?_
       rintro e w1 ⟨rfl,k1,o1⟩
       have HK:=Aa (HKB.out.trans k1)
       have HO:=Aa o1
       clear k1 o1 HC HKB
       go_wp2
       go_roundw
       case rel=> exact⟨a+2 * bs,_,rfl,by go_num,by omega,HP',HK.out,HO.out⟩
       case measure=> (simp [intOf];try omega)
      ·have f1:decide ((a:Int)+2 * bs≤(n:Int))=false:=by simp;omega
       by_cases hm:a+bs < n
       ·obtain⟨p1,p2,p3⟩:=HP.out
        have HB:Hid (Blk (2 * bs) (Av cur a n)∧(Av cur a n).length=n∧B9 (Av cur a n) l):=⟨p1.An7 (by omega) p2 ha (by omega),by rw [Ie cur ha (by omega)];exact p2,(Iu cur ha (by omega)).trans p3⟩
        have HC:=Aa (Iv n cap g hn _ a (a+bs) n (Nat.le_refl _) cur wr base hown (by omega) (by omega) (Nat.le_refl _) p1.two.1 (p1.run p2 (by omega)))
        have HKB:=Aa hkb
        have f3:decide ((a:Int)+bs < (n:Int))=true:=by simp;omega
        clear p1 p2 p3 HP hkb hown
        go_wp2_with fail
        rw [show((a:Int)+bs)=((a+bs:Nat):Int) from by omega]
        with_reducible refine HC.out.mono ?_
        rintro e w1 ⟨rfl,k1,o1⟩
        have HK:=Aa (HKB.out.trans k1)
        have HO:=Aa o1
        clear k1 o1 HC HKB
        go_wp2
        go_roundw
        case rel=> exact⟨2 * bs,_,by go_num,by omega,by omega,HB,HK.out,HO.out⟩
        case measure=> (simp [intOf];try omega)
       ·obtain⟨p1,p2,p3⟩:=HP.out
        have HB:Hid (Blk (2 * bs) cur∧cur.length=n∧B9 cur l):=⟨p1.Apo (by omega) p2 ha (by omega),p2,p3⟩
        have f3:decide ((a:Int)+bs < (n:Int))=false:=by simp;omega
        clear p1 p2 p3 HP
        go_wp2
        go_roundw
        case rel=> exact⟨2 * bs,_,by go_num,by omega,by omega,HB,hkb,hown⟩
        case measure=> (simp [intOf];try omega)
    ·have HE:Hid (cur=Dz l):=by
      obtain⟨p1,p2,p3⟩:=HB.out
      exact Q8 (p1.whole (by omega)) p3
     go_wp2
     go_end0
     exact⟨rfl,hkb,by rw [←HE.out];exact hown⟩
end Go.Proofs.YtbibeionenjmfaaGreatDoor
