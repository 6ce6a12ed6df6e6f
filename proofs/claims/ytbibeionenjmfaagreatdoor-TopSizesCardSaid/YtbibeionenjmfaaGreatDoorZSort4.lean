/- Pairs sorted in place: the merge of two runs, walked: one ahead of a run; one behind a run. -/
import Derived.Deep.RegionHeld3
import Derived.BigRegion
import Derived.Test.YtbibeionenjmfaaGreatDoorRows
import Derived.Test.YtbibeionenjmfaaGreatDoorZOwn
set_option linter.unusedSimpArgs false
set_option linter.unusedVariables false
namespace Go.Proofs.YtbibeionenjmfaaGreatDoor
open Go.RowKit
theorem Yq (s:ByteArray) (w:World):
 Calls Tryz.prog 187 #[.string s] w fun e w'=> e= .returned (.bool false)∧w=w':=by
 go_enter Tryz.func187,Tryz.ntmps187
 go_wp2
 go_ret
 exact⟨by simp,rfl⟩
def Vt (a b:ByteArray):Int:=if Op.bytesLess a.toList b.toList then -1 else if Op.bytesLess b.toList a.toList then 1 else 0
theorem Agb (x y:ByteArray) (w:World):
 Calls Tryz.prog 160 #[.string x, .string y] w fun e w'=> e= .returned (.int .i64 (Vt x y))∧w=w':=by
 cases h:Op.bytesLess x.toList y.toList
 ·cases h2:Op.bytesLess y.toList x.toList
  ·have hr:Vt x y=0:=by unfold Vt;rw [h,h2];rfl
   have he:(x.toList ==y.toList)=true:=by
    rcases To x.toList y.toList with h3 | h3 | h3
    ·rw [h] at h3;cases h3
    ·simpa using h3
    ·rw [h2] at h3;cases h3
   rw [hr];clear hr
   go_enter Tryz.func160,Tryz.ntmps160
   go_wp2_with (go_at_call 187;refine(Yq _ _).mono ?_;rintro e w1 ⟨rfl,rfl⟩)
   go_ret
   exact⟨rfl,rfl⟩
  ·have hr:Vt x y=1:=by unfold Vt;rw [h,h2];rfl
   have he:(x.toList ==y.toList)=false:=by
    rw [beq_eq_false_iff_ne];intro e;rw [e,Ix] at h2;cases h2
   rw [hr];clear hr
   go_enter Tryz.func160,Tryz.ntmps160
   go_wp2_with (go_at_call 187;refine(Yq _ _).mono ?_;rintro e w1 ⟨rfl,rfl⟩)
   go_ret
   exact⟨rfl,rfl⟩
 ·have hr:Vt x y= -1:=by unfold Vt;rw [h];rfl
  rw [hr];clear hr
  go_enter Tryz.func160,Tryz.ntmps160
  go_wp2_with (go_at_call 187;refine(Yq _ _).mono ?_;rintro e w1 ⟨rfl,rfl⟩)
  go_ret
  exact⟨rfl,rfl⟩
theorem Pa (a b:Pr):decide (Vt a.1 b.1 < 0)=Cq a b:=by
 unfold Vt Cq
 split
 ·rename_i h;rw [h];rfl
 ·rename_i h
  have h':Op.bytesLess a.1.toList b.1.toList=false:=by simpa using h
  rw [h']
  split <;> rfl
theorem J3 (a b:Pr) (w:World):
 Calls Tryz.prog 159 #[.agg #[.string a.1, .int .i64 a.2], .agg #[.string b.1, .int .i64 b.2]] w fun e w'=> e= .returned (.int .i64 (Vt a.1 b.1))∧Below w.heap.size w w':=by
 go_enter Tryz.func159,Tryz.ntmps159
 go_wp2_with fail
 refine(Agb _ _ _).mono ?_
 rintro e w1 ⟨rfl,rfl⟩
 go_wp2
 go_ret
 exact⟨rfl,((Below.refl _ _).alloc (Nat.le_refl _) _).alloc (by simp) _⟩
abbrev Dh (w:World) (base g n cap:Nat) (l:List Pr):Prop:=Own 2 Bt 202 w base (.slice (some ⟨g,0,none⟩) n cap) l
theorem Dh.at {w:World} {base g n cap:Nat} {l:List Pr} (h:Dh w base g n cap l) {i:Nat} {p:Pr} (hi:l[i]?=some p):
 w.cell? ⟨g,i * 2,none⟩=some (.string p.1)∧w.cell? ⟨g,i * 2+1,none⟩=some (.int .i64 p.2)∧w.frozen? ⟨g,i * 2,none⟩=false∧w.frozen? ⟨g,i * 2+1,none⟩=false∧i < n:=
 ⟨h.cellAt (j:=0) Bn hi rfl,h.cellAt (j:=1) Bn hi rfl,h.frozenAt _,h.frozenAt _,by rw [h.len];exact(List.getElem?_eq_some_iff.1 hi).1⟩
def Xv (w:World) (g k:Nat) (p:Pr):World:=(w.setCell ⟨g,k * 2,none⟩ (.string p.1)).setCell ⟨g,k * 2+1,none⟩ (.int .i64 p.2)
theorem Dh.set {w:World} {base g n cap k:Nat} {l:List Pr} {x:Pr} (h:Dh w base g n cap l) (hk:l[k]?=some x) (p:Pr):Dh (Xv w g k p) base g n cap (l.set k p):=by
 obtain⟨x0,x1⟩:=x
 obtain⟨p0,p1⟩:=p
 have hlt:=(List.getElem?_eq_some_iff.1 hk).1
 have h0:=h.Pv (j:=0) (y:=(p0,x1)) (u:= .string p0) Bn hk (by decide) rfl
 have h1:=h0.Pv (k:=k) (x:=(p0,x1)) (j:=1) (y:=(p0,p1)) (u:= .int .i64 p1) Bn (List.getElem?_set_self hlt) (by decide) rfl
 rw [List.set_set] at h1
 exact h1
theorem Va (w:World) (g k:Nat) (p:Pr):Ab (fun q=> q=g) w (Xv w g k p):=((Ab.refl (fun q=> q=g) w).setCell (p:=⟨g,k * 2,none⟩) rfl _).setCell (p:=⟨g,k * 2+1,none⟩) rfl _
theorem Dh.swap {w:World} {base g n cap i j:Nat} {l:List Pr} {x y:Pr} (h:Dh w base g n cap l) (hi:l[i]?=some x) (hj:l[j]?=some y):Dh (Xv (Xv w g i y) g j x) base g n cap (swapAt l i j):=by
 rw [Ra hi hj]
 obtain⟨z,hz⟩:∃ z,(l.set i y)[j]?=some z:=by
  have:=(List.getElem?_eq_some_iff.1 hj).1
  exact⟨(l.set i y)[j]'(by simpa using this),by simp [this]⟩
 exact(h.set hi y).set hz x
theorem Nr (w:World) (g i j:Nat) (x y:Pr):Ab (fun q=> q=g) w (Xv (Xv w g i y) g j x):=(Va w g i y).trans (Va _ g j x)
set_option maxHeartbeats 1000000 in
theorem Kh (a b n m cap g:Nat) (l:List Pr) (c:Value) {w:World} {base:Nat} (h:Dh w base g m cap l) (hm:m≤1000000000) (ha:a+n≤m) (hb:b+n≤m) (hd:a+n≤b):
 Calls Tryz.prog 221 #[.slice (some ⟨g,0,none⟩) m cap, .int .i64 a, .int .i64 b, .int .i64 n,c] w fun e w'=> e= .returned (.tuple #[])∧Ab (fun q=> q=g) w w'∧Dh w' base g m cap (Io l a b n):=by
 have hlen:=Aa h.len
 have H:=Aa h;clear h
 go_enter Tryz.func221,Tryz.ntmps221
 go_wp2
 go_loopw [10] (fun i wr=> ∃ k:Nat,k≤n∧i= .int .i64 k∧Ab (fun q=> q=g) w wr∧Dh wr base g m cap (Io l a b k)) (fun i _=> n - (intOf i).toNat)
 case atStart=> exact⟨0,by omega,rfl,Ab.refl _ _,H.out⟩
 case round=>
  obtain⟨k,hk,rfl,hkb,hown⟩:=hrel
  by_cases hlt:k < n
  ·have hl:=X4 l a b k
   rw [←hlen.out] at hl
   obtain⟨x,hx⟩:∃ x,(Io l a b k)[a+k]?=some x:=⟨(Io l a b k)[a+k]'(by omega),by simp [show a+k < (Io l a b k).length by omega]⟩
   obtain⟨y,hy⟩:∃ y,(Io l a b k)[b+k]?=some y:=⟨(Io l a b k)[b+k]'(by omega),by simp [show b+k < (Io l a b k).length by omega]⟩
   obtain⟨x0,x1,xz,xz',_⟩:=hown.at hx
   obtain⟨y0,y1,yz,yz',_⟩:=hown.at hy
   have HS:=hown.swap hx hy
   have HK:=hkb.trans (Nr wr g (a+k) (b+k) x y)
   have HS:=Aa HS;have HK:=Aa HK
   have f1:(0:Int)≤(a:Int)+k∧(a:Int)+k < (m:Int)∧(0:Int)≤(b:Int)+k∧(b:Int)+k < (m:Int):=by omega
   obtain⟨f1,f2,f3,f4⟩:=f1
   have f5:IntKind.i64.wrap ((a:Int)+k)=(a:Int)+k:=IntWalk.i64_in _ (by omega)
   have f6:IntKind.i64.wrap ((b:Int)+k)=(b:Int)+k:=IntWalk.i64_in _ (by omega)
   have f7:((a:Int)+k).toNat=a+k:=by omega
   have f8:((b:Int)+k).toNat=b+k:=by omega
   clear hown hkb hx hy hl
   go_wp2
   go_region
   all_goals
    clear f5 f6 f7 f8
    go_wp2
    go_roundw
    case rel=> exact⟨k+1,by omega,by go_num,HK.out.drew,HS.out.drew⟩
    case measure=> simp [intOf];omega
  ·go_wp2
   go_end0
   exact⟨rfl,hkb,by rw [show n=k by omega];exact hown⟩
theorem Anp {l:List Pr} {lo j:Nat} (h:j≤lo):sink l lo j=l:=by
 cases j with
 | zero=> rfl
 | succ j=>
   unfold sink
   split
   ·rw [if_neg (fun h'=> by omega)]
   ·rfl
theorem Aii {l:List Pr} {lo j:Nat} {x y:Pr} (hx:l[j+1]?=some x) (hy:l[j]?=some y) (h:Cq x y=false):sink l lo (j+1)=l:=by
 unfold sink;rw [hx,hy]
 show(if _ then _ else _)=_
 rw [if_neg (fun h'=> by rw [h] at h';cases h'.2)]
theorem Ano {l:List Pr} {lo j:Nat} {x y:Pr} (hx:l[j+1]?=some x) (hy:l[j]?=some y) (hlo:lo < j+1) (h:Cq x y=true):sink l lo (j+1)=sink (swapAt l (j+1) j) lo j:=by
 conv=> lhs;unfold sink
 rw [hx,hy]
 show(if _ then _ else _)=_
 rw [if_pos ⟨hlo,h⟩]
theorem get_some {l:List Pr} {i:Nat} (h:i < l.length):∃ x,l[i]?=some x:=⟨l[i],List.getElem?_eq_getElem h⟩
set_option maxHeartbeats 2000000 in
theorem N3 (a b m cap g:Nat) (l:List Pr) {w:World} {base:Nat} (h:Dh w base g m cap l) (hm:m≤1000000000) (hab:a≤b) (hb:b≤m):
 Calls Tryz.prog 206 #[.slice (some ⟨g,0,none⟩) m cap, .int .i64 a, .int .i64 b, .func (.func 159) #[] #[]] w fun e w'=> e= .returned (.tuple #[])∧Ab (fun q=> q=g) w w'∧Dh w' base g m cap (Av l a b):=by
 have hlen:=Aa h.len
 have H:=Aa h;clear h
 go_enter Tryz.func206,Tryz.ntmps206
 go_wp2
 go_loopw [8] (fun i wr=> ∃ k:Nat,(a+1+k≤b∨k=0)∧i= .int .i64 ((a:Int)+1+k)∧Ab (fun q=> q=g) w wr∧Dh wr base g m cap (Mm l a k)) (fun i _=> b+1 - (intOf i).toNat)
 case atStart=> exact⟨0, .inr rfl,by go_num,Ab.refl _ _,H.out⟩
 case round=>
  obtain⟨k,hk,rfl,hkb,hown⟩:=hrel
  by_cases hlt:a+1+k < b
  ·have hl:=Wz l a k
   rw [←hlen.out] at hl
   have hR:Hid (sink (Mm l a k) a (a+1+k)=Mm l a (k+1)):=rfl
   have HL:=Aa hl
   generalize Mm l a k=cur0 at *
   generalize hRe:Mm l a (k+1)=R at *
   have HRe:=Aa hRe
   clear hl hRe
   obtain⟨wo,hwo⟩:∃ wo:World,wo=wr:=⟨wr,rfl⟩
   subst hwo
   have HKB:=Aa hkb
   have HOWN:=Aa hown
   clear hkb hown
   have f0:decide ((a:Int)+1+k < (b:Int))=true:=by simp;omega
   go_wp2
   clear f0
   go_loopw [9] (fun i wr=> ∃ j:Nat,∃ cur,j < m∧i= .int .i64 j∧Hid (sink cur a j=R)∧Hid (cur.length=m)∧Ab (fun q=> q=g) w wr∧Dh wr base g m cap cur) (fun i _=> (intOf i).toNat)
   case atStart=> exact⟨a+1+k,cur0,by omega,by go_num,hR,HL,HKB.out,HOWN.out⟩
   case round=>
    obtain⟨j,cur,hj,rfl,hS,hC,hkb,hown⟩:=hrel
    by_cases hja:a < j
    ·obtain⟨j',rfl⟩:∃ j',j=j'+1:=⟨j - 1,by omega⟩
     obtain⟨x,hx⟩:=get_some (l:=cur) (i:=j'+1) (by rw [hC.out];omega)
     obtain⟨y,hy⟩:=get_some (l:=cur) (i:=j') (by rw [hC.out];omega)
     obtain⟨x0,x1,xz,xz',_⟩:=hown.at hx
     obtain⟨y0,y1,yz,yz',_⟩:=hown.at hy
     have HX:=Aa hx
     have HY:=Aa hy
     have HOW:=Aa hown
     have HKB2:=Aa hkb
     clear hx hy hown hkb
     have f1:(0:Int)≤(j':Int)+1∧(j':Int)+1 < (m:Int)∧(0:Int)≤(j':Int)∧(j':Int) < (m:Int):=by omega
     obtain⟨f1,f2,f3,f4⟩:=f1
     have f5:decide ((a:Int) < (j':Int)+1)=true:=by simp;omega
     have f6:IntKind.i64.wrap (j':Int)=(j':Int):=IntWalk.i64_in _ (by omega)
     have f7:((j':Int)+1).toNat=j'+1:=by omega
     have f8:=Pa x y
     have hsk:Hid (Cq x y=true→sink (swapAt cur (j'+1) j') a j'=R):=fun hk=> by rw [←Ano HX.out HY.out hja hk];exact hS.out
     have hss:Hid (Cq x y=false→cur=R):=fun hk=> by rw [←hS.out,Aii HX.out HY.out hk]
     cases hk2:Cq x y
     ·rw [hk2] at f8
      have HE:=Aa (hss.out hk2)
      clear hk2 hsk hss
      go_wp2
      go_region_held3 (fun w'=> w'.cell? ⟨g,(j'+1) * 2,none⟩=some (.string x.1)∧w'.cell? ⟨g,(j'+1) * 2+1,none⟩=some (.int .i64 x.2)∧w'.cell? ⟨g,j' * 2,none⟩=some (.string y.1)∧w'.cell? ⟨g,j' * 2+1,none⟩=some (.int .i64 y.2)∧Below wr.heap.size wr w')
       (first | (go_split_ands;exact⟨by simpa using x0,by simpa using x1,by simpa using y0,by simpa using y1,(Below.refl _ _).drew⟩) | (go_split_ands;exact⟨cell_later hb1 (by assumption),cell_later hb1 (by assumption),cell_later hb1 (by assumption),cell_later hb1 (by assumption),Below.trans (by assumption) (hb1.mono (Below.size (by assumption)))⟩))
       ((go_at_call 159;refine(J3 x y _).mono ?_;rintro e w1 ⟨rfl,hb1⟩))
      all_goals
       have hbl:Below wr.heap.size wr w1:=And.right (And.right (And.right (And.right (by assumption))))
       have ho1:=HOW.out.later hbl
       have hk1:=HKB2.out.trans (Ab.Ai (S:=fun q=> q=g) hbl (Nat.le_refl _))
       have HE1:=HE.out
       subst HE1
       clear f5 f6 f7 f8 hS
       go_wp2
       go_roundw
       case rel=> exact⟨k+1,by omega,by go_num,hk1,by rw [HRe.out];exact ho1⟩
       case measure=> simp [intOf];omega
     ·rw [hk2] at f8
      have HE:=Aa (hsk.out hk2)
      clear hk2 hsk hss
      go_wp2
      go_region_held3 (fun w'=> w'.cell? ⟨g,(j'+1) * 2,none⟩=some (.string x.1)∧w'.cell? ⟨g,(j'+1) * 2+1,none⟩=some (.int .i64 x.2)∧w'.cell? ⟨g,j' * 2,none⟩=some (.string y.1)∧w'.cell? ⟨g,j' * 2+1,none⟩=some (.int .i64 y.2)∧Below wr.heap.size wr w')
       (first | (go_split_ands;exact⟨by simpa using x0,by simpa using x1,by simpa using y0,by simpa using y1,(Below.refl _ _).drew⟩) | (go_split_ands;exact⟨cell_later hb1 (by assumption),cell_later hb1 (by assumption),cell_later hb1 (by assumption),cell_later hb1 (by assumption),Below.trans (by assumption) (hb1.mono (Below.size (by assumption)))⟩))
       ((go_at_call 159;refine(J3 x y _).mono ?_;rintro e w1 ⟨rfl,hb1⟩))
      all_goals
       have hbl:Below wr.heap.size wr w1:=And.right (And.right (And.right (And.right (by assumption))))
       have ho1:=HOW.out.later hbl
       have hk1:=HKB2.out.trans (Ab.Ai (S:=fun q=> q=g) hbl (Nat.le_refl _))
       obtain⟨p0,p1,pz,pz',_⟩:=Dh.at ho1 HX.out
       obtain⟨q0,q1,qz,qz',_⟩:=Dh.at ho1 HY.out
       have HS:=Aa (Dh.swap ho1 HX.out HY.out)
       have HK:=Aa (hk1.trans (Nr w1 g (j'+1) j' x y))
       have HCL:=Aa (show(swapAt cur (j'+1) j').length=m by rw [Jj];exact hC.out)
       clear ho1 hk1 hbl x0 x1 y0 y1 xz xz' yz yz' f8
       go_wp2
       go_region
       all_goals
        clear f5 f6 f7
        go_wp2
        go_roundw
        case rel=> exact⟨j',_,by omega,by go_num,HE,HCL,HK.out.drew,HS.out.drew⟩
        case measure=> (simp [intOf];try omega)
    ·have f5:decide ((a:Int) < (j:Int))=false:=by simp;omega
     have f5':decide (a < j)=false:=by simp;omega
     have HE:Hid (cur=R):=by show cur=R;rw [←hS.out,Anp (by omega)]
     go_wp2
     go_quiet (fail)
     have HE1:=HE.out
     subst HE1
     clear hS
     go_wp2
     go_roundw
     case rel=> exact⟨k+1,by omega,by go_num,hkb.drewN _,by rw [HRe.out];exact hown.drewN _⟩
     case measure=> simp [intOf];omega
  ·go_wp2
   go_end0
   refine⟨rfl,hkb,?_⟩
   rcases hk with hk | rfl
   ·rw [show b=a+1+k by omega,←Aaz l a k (by rw [←hlen.out];omega)];exact hown
   ·rw [N7 l (by omega) hab (by rw [←hlen.out];omega)];exact hown
end Go.Proofs.YtbibeionenjmfaaGreatDoor
namespace Go.Proofs.YtbibeionenjmfaaGreatDoor
open Go.RowKit
set_option maxHeartbeats 1000000 in
theorem Aem (a m b n cap g:Nat) (A X Y B:List Pr) (c:Value) {w:World} {base:Nat} (h:Dh w base g n cap (A++X++Y++B)) (hn:n≤1000000000) (ha:A.length=a) (hm:a+X.length=m) (hb:m+Y.length=b) (hX:0 < X.length) (hY:0 < Y.length):
 Calls Tryz.prog 218 #[.slice (some ⟨g,0,none⟩) n cap, .int .i64 a, .int .i64 m, .int .i64 b,c] w fun e w'=> e= .returned (.tuple #[])∧Ab (fun q=> q=g) w w'∧Dh w' base g n cap (A++Y++X++B):=by
 have hlen:=h.len
 simp at hlen
 have hbn:b≤n:=by omega
 have HB:=Aa hb
 have H:=Aa h;clear h
 have hR:Hid (A++Y++X++B=A++Y++X++B):=rfl
 have HI:Hid (∃ pre P Q post,A++X++Y++B=pre++P++Q++post∧A++Y++X++B=pre++Q++P++post∧pre.length+P.length=m∧P.length=m - a∧Q.length=b - m):=⟨A,X,Y,B,rfl,rfl,by omega,by omega,by omega⟩
 have e1:IntKind.i64.wrap ((m:Int) - a)=((m - a:Nat):Int):=by rw [IntWalk.i64_in _ (by omega)];omega
 have h1:0 < m - a:=by omega
 have h2:0 < b - m:=by omega
 have h3:a≤m:=by omega
 have h4:m≤b:=by omega
 have h5:m+(b - m)≤n:=by omega
 generalize hR1:A++Y++X++B=R at *
 generalize hL1:A++X++Y++B=L at *
 clear hR1 hL1 hlen hm hb ha hX hY e1 hR HB
 go_enter Tryz.func218,Tryz.ntmps218
 go_wp2
 go_loopw [10,11] (fun p q wr=> ∃ i j:Nat,∃ cur,p= .int .i64 i∧q= .int .i64 j∧0 < i∧0 < j∧i≤m∧m+j≤n∧Hid (∃ pre P Q post,cur=pre++P++Q++post∧R=pre++Q++P++post∧pre.length+P.length=m∧P.length=i∧Q.length=j)∧Ab (fun q=> q=g) w wr∧Dh wr base g n cap cur) (fun p q _=> (intOf p).toNat+(intOf q).toNat)
 case atStart=> exact⟨m - a,b - m,L,by go_num,by go_num,h1,h2,by omega,h5,HI,Ab.refl _ _,H.out⟩
 case round=>
  obtain⟨i,j,cur,rfl,rfl,hi,hj,him,hjn,HC,hkb,hown⟩:=hrel
  by_cases hij:i=j
  ·subst hij
   have e1:((i:Int) !=i)=false:=by simp
   go_wp2_with fail
   rw [show((m:Int) - i)=((m - i:Nat):Int) from by omega]
   with_reducible refine(Kh (m - i) m i n cap g cur c hown hn (by omega) (by omega) (by omega)).mono ?_
   rintro e w1 ⟨rfl,k1,o1⟩
   go_wp2
   go_end0
   refine⟨rfl,hkb.trans k1,?_⟩
   obtain⟨pre,P,Q,post,hc,hr,h1,h2,h3⟩:=HC.out
   rw [hr]
   have:=Rb (A:=pre) (X:=P) (M:= []) (Y:=Q) (B:=post) (a:=m - i) (b:=m) (n:=i) h2 h3 (by omega) (by simp;omega)
   simp only [List.append_nil] at this
   rw [hc,this] at o1
   exact o1
  ·have e1:((i:Int) !=j)=true:=by rw [bne_iff_ne];omega
   by_cases hlt:j < i
   ·have e2:decide ((j:Int) < i)=true:=by simp;omega
    have e2':decide (j < i)=true:=by simpa using hlt
    go_wp2_with fail
    rw [show((m:Int) - i)=((m - i:Nat):Int) from by omega]
    with_reducible refine(Kh (m - i) m j n cap g cur c hown hn (by omega) (by omega) (by omega)).mono ?_
    rintro e w1 ⟨rfl,k1,o1⟩
    have HC':Hid (∃ pre P Q post,Io cur (m - i) m j=pre++P++Q++post∧R=pre++Q++P++post∧pre.length+P.length=m∧P.length=i - j∧Q.length=j):=by
     obtain⟨pre,P,Q,post,hc,hr,h1,h2,h3⟩:=HC.out
     refine⟨pre++Q,P.drop j,P.take j,post,?_,?_,by simp;omega,by simp;omega,by simp;omega⟩
     ·have:=Rb (A:=pre) (X:=P.take j) (M:=P.drop j) (Y:=Q) (B:=post) (a:=m - i) (b:=m) (n:=j) (by simp;omega) h3 (by omega) (by simp;omega)
      rw [hc,show pre++P++Q++post=pre++P.take j++P.drop j++Q++post by rw [List.append_assoc pre (P.take j),List.take_append_drop],this]
     ·rw [hr,List.append_assoc (pre++Q) (P.take j),List.take_append_drop]
    have e3:((i - j:Nat):Int)=(i:Int) - j:=by omega
    have HE:=Aa e3
    have HK:=Aa (hkb.trans k1)
    have HO:=Aa o1
    clear e3 HC hkb k1 o1 hown
    go_wp2
    go_roundw
    case rel=> exact⟨i - j,j,_,by rw [HE.out],rfl,by omega,by omega,by omega,by omega,HC',HK.out,HO.out⟩
    case measure=> simp [intOf];omega
   ·have e2:decide ((j:Int) < i)=false:=by simp;omega
    have e2':decide (j < i)=false:=by simp;omega
    go_wp2_with fail
    rw [show((m:Int) - i)=((m - i:Nat):Int) from by omega,show((m:Int)+j - i)=((m+j - i:Nat):Int) from by omega]
    with_reducible refine(Kh (m - i) (m+j - i) i n cap g cur c hown hn (by omega) (by omega) (by omega)).mono ?_
    rintro e w1 ⟨rfl,k1,o1⟩
    have HC':Hid (∃ pre P Q post,Io cur (m - i) (m+j - i) i=pre++P++Q++post∧R=pre++Q++P++post∧pre.length+P.length=m∧P.length=i∧Q.length=j - i):=by
     obtain⟨pre,P,Q,post,hc,hr,h1,h2,h3⟩:=HC.out
     refine⟨pre,Q.drop (j - i),Q.take (j - i),P++post,?_,?_,by simp;omega,by simp;omega,by simp;omega⟩
     ·have:=Rb (A:=pre) (X:=P) (M:=Q.take (j - i)) (Y:=Q.drop (j - i)) (B:=post) (a:=m - i) (b:=m+j - i) (n:=i) h2 (by simp;omega) (by omega) (by simp;omega)
      rw [hc,show pre++P++Q++post=pre++P++Q.take (j - i)++Q.drop (j - i)++post by rw [List.append_assoc (pre++P) (Q.take (j - i)),List.take_append_drop],this]
      simp
     ·rw [hr]
      rw [←List.append_assoc,List.append_assoc pre (Q.take (j - i)),List.take_append_drop]
    have e3:((j - i:Nat):Int)=(j:Int) - i:=by omega
    have HE:=Aa e3
    have HK:=Aa (hkb.trans k1)
    have HO:=Aa o1
    clear e3 HC hkb k1 o1 hown
    go_wp2
    go_roundw
    case rel=> exact⟨i,j - i,_,rfl,by rw [HE.out],by omega,by omega,by omega,by omega,HC',HK.out,HO.out⟩
    case measure=> simp [intOf];omega
end Go.Proofs.YtbibeionenjmfaaGreatDoor
namespace Go.Proofs.YtbibeionenjmfaaGreatDoor
open Go.RowKit
def el (l:List Pr) (k:Nat):Pr:=l.getD k (⟨#[]⟩,0)
theorem Afa {l:List Pr} {k:Nat} {x:Pr} (h:l[k]?=some x):el l k=x:=by unfold el;rw [List.getD_eq_getElem?_getD,h];rfl
theorem Qm {l:List Pr} {k:Nat} (h:k < l.length):l[k]?=some (el l k):=by unfold el;rw [List.getD_eq_getElem?_getD,List.getElem?_eq_getElem h];rfl
def Ends (p:Nat→Bool) (lo hi i j:Nat):Prop:=lo≤i∧i≤j∧j≤hi∧(i=lo∨p (i - 1)=true)∧(j=hi∨p j=false)
theorem Ends.start (p:Nat→Bool) {lo hi:Nat} (h:lo≤hi):Ends p lo hi lo hi:=⟨Nat.le_refl _,h,Nat.le_refl _, .inl rfl, .inl rfl⟩
theorem Ends.up {p:Nat→Bool} {lo hi i j h:Nat} (e:Ends p lo hi i j) (h1:i≤h) (h2:h < j) (hp:p h=true):Ends p lo hi (h+1) j:=by
 obtain⟨a,b,c,d,f⟩:=e
 exact⟨by omega,by omega,c, .inr (by simpa using hp),f⟩
theorem Ends.down {p:Nat→Bool} {lo hi i j h:Nat} (e:Ends p lo hi i j) (h1:i≤h) (h2:h < j) (hp:p h=false):Ends p lo hi i h:=by
 obtain⟨a,b,c,d,f⟩:=e
 exact⟨a,by omega,by omega,d, .inr hp⟩
theorem Zb {l:List Pr} {a b k:Nat} (h:a+k < b):(Cb l a b)[k]?=l[a+k]?:=by
 unfold Cb;rw [List.getElem?_take_of_lt (by omega),List.getElem?_drop]
theorem Nk {l:List Pr} {a b:Nat} {y:Pr} (h:y∈Cb l a b):∃ k,a≤k∧k < b∧l[k]?=some y:=by
 obtain⟨i,hi⟩:=List.getElem?_of_mem h
 have hlt:=(List.getElem?_eq_some_iff.1 hi).1
 have:i < b - a:=by unfold Cb at hlt;rw [List.length_take] at hlt;omega
 rw [Zb (by omega)] at hi
 exact⟨a+i,by omega,by omega,hi⟩
theorem K0 {l:List Pr} {a b i j:Nat} {x y:Pr} (h:Bl (Cb l a b)) (hi:a≤i) (hij:i≤j) (hj:j < b) (hx:l[i]?=some x) (hy:l[j]?=some y):Cq y x=false:=by
 by_cases e:i=j
 ·subst e;rw [hx] at hy;cases hy;exact Ok _
 ·have h1:(Cb l a b)[i - a]?=some x:=by rw [Zb (by omega),show a+(i - a)=i by omega];exact hx
  have h2:(Cb l a b)[j - a]?=some y:=by rw [Zb (by omega),show a+(j - a)=j by omega];exact hy
  obtain⟨l1,e1⟩:=List.getElem?_eq_some_iff.1 h1
  obtain⟨l2,e2⟩:=List.getElem?_eq_some_iff.1 h2
  have:=List.pairwise_iff_getElem.1 h (i - a) (j - a) l1 l2 (by omega)
  rw [e1,e2] at this
  exact this
theorem Aaf {l:List Pr} {lo hi i:Nat} {q:Pr→Bool} (e:Ends (fun k=> q (el l k)) lo hi i i) (hr:Bl (Cb l lo hi)) (hl:hi≤l.length) (hq:∀ y z,Cq z y=false→q z=true→q y=true):
 (∀ y∈Cb l lo i,q y=true)∧∀ y∈Cb l i hi,q y=false:=by
 obtain⟨h1,_,h3,h4,h5⟩:=e
 refine⟨fun y hy=> ?_,fun y hy=> ?_⟩
 ·obtain⟨k,k1,k2,hk⟩:=Nk hy
  rcases h4 with h4 | h4
  ·omega
  ·exact hq y (el l (i - 1)) (K0 hr k1 (by omega) (by omega) hk (Qm (by omega))) h4
 ·obtain⟨k,k1,k2,hk⟩:=Nk hy
  rcases h5 with h5 | h5
  ·omega
  ·cases hc:q y
   ·rfl
   ·have:=hq (el l i) y (K0 hr h1 k1 k2 (Qm (by omega)) hk) hc
    have h5':q (el l i)=false:=h5
    rw [h5'] at this;cases this
theorem D7 {l:List Pr} {a m b:Nat} (h:a≤m) (h2:m≤b):Cb l a m++Cb l m b=Cb l a b:=by
 unfold Cb
 rw [show b - a=(m - a)+(b - m) by omega,List.take_add,List.drop_drop,show a+(m - a)=m by omega]
theorem Afw {l:List Pr} {a:Nat} {x:Pr} (h:l[a]?=some x):Cb l a (a+1)= [x]:=by
 have:=(Abz (Nat.le_refl a) h).1
 rw [this];unfold Cb;simp
theorem parts {l:List Pr} {a m b:Nat} (h:a≤m) (h2:m≤b) (hb:b≤l.length):l=l.take a++Cb l a m++Cb l m b++l.drop b:=by
 rw [List.append_assoc (l.take a),D7 h h2];exact Np l (by omega) hb
theorem Zf {l:List Pr} {a b i:Nat} {x:Pr} (hx:l[a]?=some x) (hb:b≤l.length) (ha:a+1≤b) (hr:Bl (Cb l (a+1) b)) (e:Ends (fun k=> Cq (el l k) x) (a+1) b i i):
 Vh l a (i - (a+1))=Av l a b:=by
 obtain⟨h1,h2⟩:=Aaf (q:=fun y=> Cq y x) e hr hb (fun y z hz hc=> Afl hz hc)
 have hi1:=e.1
 have hi2:=e.2.2.1
 have hp:=parts (l:=l) (a:=a) (m:=a+1) (b:=b) (by omega) ha hb
 have hs:=D7 (l:=l) hi1 hi2
 rw [Afw hx,←hs] at hp
 have hlen:(l.take a).length=a:=by simp;omega
 have hl1:(Cb l (a+1) i).length=i - (a+1):=Ff l hi1 (by omega)
 have hl2:(Cb l i b).length=b - i:=Ff l hi2 hb
 have hS:=L4 (l:=l) (A:=l.take a) (S:=x::(Cb l (a+1) i++Cb l i b)) (B:=l.drop b) (a:=a) (b:=b) (by simpa using hp) hlen (by simp;omega)
 rw [hS,←Apd (by rw [hs];exact hr) h1 h2]
 have hu:=Af6 (A:=l.take a) (x:=x) (a:=a) hlen (n:=i - (a+1)) (R:=Cb l (a+1) i) (B:=Cb l i b++l.drop b) hl1
 rw [show l.take a++x::(Cb l (a+1) i++(Cb l i b++l.drop b))=l by simpa using hp.symm] at hu
 rw [hu];simp
theorem V4 {l:List Pr} {a m i:Nat} {x:Pr} (hx:l[m]?=some x) (ha:a≤m) (hr:Bl (Cb l a m)) (e:Ends (fun k=> !Cq x (el l k)) a m i i):
 Hk l m (m - i)=Av l a (m+1):=by
 have hm:=(List.getElem?_eq_some_iff.1 hx).1
 obtain⟨h1,h2⟩:=Aaf (q:=fun y=> !Cq x y) e hr (by omega) (fun y z hz hc=> by
  have hc':Cq x z=false:=by simpa using hc
  have:=Gr hz hc'
  simp [this])
 have hi1:=e.1
 have hi2:=e.2.2.1
 have hp:=parts (l:=l) (a:=a) (m:=m) (b:=m+1) ha (by omega) (by omega)
 have hs:=D7 (l:=l) hi1 hi2
 rw [Afw hx,←hs] at hp
 have hlen:(l.take a).length=a:=by simp;omega
 have hl1:(Cb l a i).length=i - a:=Ff l hi1 (by omega)
 have hl2:(Cb l i m).length=m - i:=Ff l hi2 (by omega)
 have hS:=L4 (l:=l) (A:=l.take a) (S:=(Cb l a i++Cb l i m)++ [x]) (B:=l.drop (m+1)) (a:=a) (b:=m+1) (by simpa using hp) hlen (by simp;omega)
 have h1':∀ y∈Cb l a i,Cq x y=false:=fun y hy=> (Bool.not_eq_true' _).mp (h1 y hy)
 have h2':∀ y∈Cb l i m,Cq x y=true:=fun y hy=> (Bool.not_eq_false' _).mp (h2 y hy)
 rw [hS,←Alc (by rw [hs];exact hr) h1' h2']
 have hlA:(l.take a++Cb l a i).length+(m - i)=m:=by rw [List.length_append,hlen,hl1];omega
 have hu:=Wp (A:= []) (x:=x) (B:=l.drop (m+1)) hl2 hlA
 rw [show l.take a++Cb l a i++Cb l i m++x::l.drop (m+1)=l by simpa using hp.symm] at hu
 rw [hu];simp
theorem Anu {l:List Pr} {a m b mid s:Nat} (hmid:mid=(a+b) / 2) (ham:a < m) (hmb:m < b) (hb:b≤l.length) (hl:Bl (Cb l a m)) (hr:Bl (Cb l m b))
 (e:Ends (fun c=> !Cq (el l (mid+m - 1 - c)) (el l c)) (if mid < m then mid+m - b else a) (if mid < m then mid else m) s s):
 a≤s∧s≤m∧s≤mid∧m≤mid+m - s∧mid+m - s≤b∧(∀ x∈Cb l m (mid+m - s),∀ y∈Cb l s m,Cq x y=true)∧∀ x∈Cb l a s,∀ y∈Cb l (mid+m - s) b,Cq y x=false:=by
 obtain⟨h1,_,h3,h4,h5⟩:=e
 have g1:a≤s:=by split at h1 <;> omega
 have g2:s≤m:=by split at h3 <;> omega
 have g3:s≤mid:=by split at h3 <;> omega
 have g4:m≤mid+m - s:=by omega
 have g5:mid+m - s≤b:=by split at h1 <;> omega
 refine⟨g1,g2,g3,g4,g5,fun x hx y hy=> ?_,fun x hx y hy=> ?_⟩
 ·obtain⟨i,i1,i2,hi⟩:=Nk hx
  obtain⟨j,j1,j2,hj⟩:=Nk hy
  rcases h5 with h5 | h5
  ·split at h5 <;> omega
  ·have hk:Cq (el l (mid+m - 1 - s)) (el l s)=true:=by simpa using h5
   have a1:=K0 hr i1 (show i≤mid+m - 1 - s by omega) (by omega) hi (Qm (by omega))
   have a2:=K0 hl g1 j1 j2 (Qm (by omega)) hj
   exact Afl a1 (S5 hk a2)
 ·obtain⟨i,i1,i2,hi⟩:=Nk hx
  obtain⟨j,j1,j2,hj⟩:=Nk hy
  rcases h4 with h4 | h4
  ·split at h4 <;> omega
  ·have hk:Cq (el l (mid+m - 1 - (s - 1))) (el l (s - 1))=false:=by simpa using h4
   rw [show mid+m - 1 - (s - 1)=mid+m - s by omega] at hk
   have a1:=K0 hl i1 (show i≤s - 1 by omega) (by omega) hi (Qm (by omega))
   have a2:=K0 hr g4 j1 j2 (Qm (by omega)) hj
   exact Gr a1 (Gr hk a2)
theorem Aew {l:List Pr} {a m b mid s:Nat} (h1:a≤s) (h2:s≤m) (h3:s≤mid) (h5:mid+m - s≤b) (hab:a < b) (ham:a < m) (hmb:m < b) (hb:b≤l.length) (hl:Bl (Cb l a m)) (hr:Bl (Cb l m b))
 (g1:∀ x∈Cb l m (mid+m - s),∀ y∈Cb l s m,Cq x y=true) (g2:∀ x∈Cb l a s,∀ y∈Cb l (mid+m - s) b,Cq y x=false):
 l.take a++Dz (Cb l a s++Cb l m (mid+m - s))++Dz (Cb l s m++Cb l (mid+m - s) b)++l.drop b=Av l a b:=by
 have e1:=D7 (l:=l) h1 h2
 have e2:=D7 (l:=l) (show m≤mid+m - s by omega) h5
 have:=Yy (L1:=Cb l a s) (L2:=Cb l s m) (R1:=Cb l m (mid+m - s)) (R2:=Cb l (mid+m - s) b) (by rw [e1];exact hl) (by rw [e2];exact hr) g1 g2
 unfold Av
 rw [←D7 (l:=l) (show a≤m by omega) (show m≤b by omega),←e1,←e2,←this]
 simp
end Go.Proofs.YtbibeionenjmfaaGreatDoor
namespace Go.Proofs.YtbibeionenjmfaaGreatDoor
open Go.RowKit
theorem Ly {l:List Pr} {a b:Nat} (h:l.length≤b):Cb l a b=l.drop a:=by
 unfold Cb;rw [List.take_of_length_le];rw [List.length_drop];omega
theorem Anl {l:List Pr} {a b:Nat} (h:l.length≤a):Cb l a b= []:=by
 unfold Cb;rw [List.drop_eq_nil_of_le h,List.take_nil]
theorem U9 {l:List Pr} {a b:Nat} (h:a≤b) (hb:b≤l.length):Cb (Av l a b) a b=Dz (Cb l a b):=
 (Ot (A:=l.take a) (S:=Dz (Cb l a b)) (B:=l.drop b) rfl (by simp;omega) (by rw [Fg,Ff l h hb];simp;omega)).1
theorem Q3 {l:List Pr} {a b c d:Nat} (h:a≤b) (hb:b≤l.length) (hc:c≤d) (hd:d≤a):Cb (Av l a b) c d=Cb l c d:=by
 have e:Av l a b=l.take c++Cb l c d++(Cb l d a++Dz (Cb l a b)++l.drop b):=by
  unfold Av
  have h1:l.take a=l.take c++Cb l c d++Cb l d a:=by
   have:=parts (l:=l.take a) (a:=c) (m:=d) (b:=a) hc hd (by simp;omega)
   rw [List.drop_eq_nil_of_le (by simp;omega),List.append_nil,List.take_take,Nat.min_eq_left (by omega)] at this
   have e1:Cb (l.take a) c d=Cb l c d:=by unfold Cb;rw [List.drop_take,List.take_take,Nat.min_eq_left (by omega)]
   have e2:Cb (l.take a) d a=Cb l d a:=by unfold Cb;rw [List.drop_take,List.take_take,Nat.min_eq_left (by omega)]
   rw [e1,e2] at this;exact this
  rw [h1];simp
 exact(Ot e (by simp;omega) (by rw [Ff l hc (by omega)];simp;omega)).1
theorem Aih {l:List Pr} {a b c d:Nat} (h:a≤b) (hb:b≤l.length) (hc:b≤c):Cb (Av l a b) c d=Cb l c d:=by
 unfold Cb
 have:(Av l a b).drop c=l.drop c:=by
  have hl:(l.take a++Dz (Cb l a b)).length=b:=by rw [List.length_append,Fg,Ff l h hb];simp;omega
  unfold Av
  rw [List.drop_append,List.drop_eq_nil_of_le (by omega),List.nil_append,List.drop_drop,hl]
  congr 1;omega
 rw [this]
def Blk (bs:Nat) (l:List Pr):Prop:=∀ t,Bl (Cb l (bs * t) (bs * (t+1)))
theorem Bl.nil:Bl []:=List.Pairwise.nil
theorem Blk.whole {bs:Nat} {l:List Pr} (h:Blk bs l) (hl:l.length≤bs):Bl l:=by
 have:=h 0
 rw [Nat.mul_zero,Nat.zero_add,Nat.mul_one,Ly hl] at this
 exact this
def Ph1 (bs:Nat) (cur:List Pr) (a:Nat):Prop:=(∃ t,a=bs * t)∧∀ t,bs * (t+1)≤a→Bl (Cb cur (bs * t) (bs * (t+1)))
theorem Ph1.start (bs:Nat) (cur:List Pr):Ph1 bs cur 0:=⟨⟨0,rfl⟩,fun t h=> by
 rcases Nat.eq_zero_or_pos bs with e | e
 ·subst e;rw [Nat.zero_mul,Nat.zero_mul];unfold Cb;exact Bl.nil
 ·have:bs * 1≤bs * (t+1):=Nat.mul_le_mul_left _ (by omega)
  omega⟩
theorem Xj {bs t u:Nat} (h0:0 < bs) (h:bs * (t+1)≤bs * u+bs):bs * (t+1)≤bs * u∨t=u:=by
 have h1:bs * (t+1)≤bs * (u+1):=by rw [Nat.mul_succ bs u];exact h
 have h2:=Nat.le_of_mul_le_mul_left h1 h0
 rcases Nat.lt_or_ge t u with h3 | h3
 ·left;exact Nat.mul_le_mul_left _ h3
 ·right;omega
theorem Ph1.step {bs:Nat} {cur:List Pr} {a:Nat} (h:Ph1 bs cur a) (h0:0 < bs) (hb:a+bs≤cur.length):Ph1 bs (Av cur a (a+bs)) (a+bs):=by
 obtain⟨⟨u,rfl⟩,h2⟩:=h
 refine⟨⟨u+1,rfl⟩,fun t ht=> ?_⟩
 rcases Xj h0 ht with h3 | rfl
 ·rw [Q3 (by omega) hb (Nat.mul_le_mul_left _ (by omega)) h3];exact h2 t h3
 ·rw [Nat.mul_succ bs t,U9 (by omega) hb];exact Ft _
theorem Ph1.last {bs:Nat} {cur:List Pr} {a n:Nat} (h:Ph1 bs cur a) (h0:0 < bs) (hn:cur.length=n) (ha:a≤n) (hb:n < a+bs):Blk bs (Av cur a n):=by
 obtain⟨⟨u,rfl⟩,h2⟩:=h
 have hl:=Ie cur ha (Nat.le_of_eq hn.symm)
 intro t
 rcases Nat.lt_trichotomy t u with h3 | h3 | h3
 ·have h4:bs * (t+1)≤bs * u:=Nat.mul_le_mul_left _ h3
  rw [Q3 ha (Nat.le_of_eq hn.symm) (Nat.mul_le_mul_left _ (by omega)) h4];exact h2 t h4
 ·subst h3
  have:Cb (Av cur (bs * t) n) (bs * t) (bs * (t+1))=Cb (Av cur (bs * t) n) (bs * t) n:=by
   rw [Ly (by rw [hl,Nat.mul_succ];omega),Ly (by omega)]
  rw [this,U9 ha (Nat.le_of_eq hn.symm)];exact Ft _
 ·have h4:bs * (u+1)≤bs * t:=Nat.mul_le_mul_left _ h3
  rw [Nat.mul_succ] at h4
  rw [Anl (by rw [hl];omega)];exact Bl.nil
def Zz (bs:Nat) (cur:List Pr) (a:Nat):Prop:=(∃ u,a=bs * (2 * u))∧(∀ t,2 * bs * (t+1)≤a→Bl (Cb cur (2 * bs * t) (2 * bs * (t+1))))∧∀ t,a≤bs * t→Bl (Cb cur (bs * t) (bs * (t+1)))
theorem Zz.start {bs:Nat} {cur:List Pr} (h:Blk bs cur):Zz bs cur 0:=⟨⟨0,by simp⟩,(Ph1.start (2 * bs) cur).2,fun t _=> h t⟩
theorem Zz.two {bs:Nat} {cur:List Pr} {a:Nat} (h:Zz bs cur a):Bl (Cb cur a (a+bs))∧Bl (Cb cur (a+bs) (a+2 * bs)):=by
 obtain⟨⟨u,rfl⟩,h2,h3⟩:=h
 have e1:bs * (2 * u+1)=bs * (2 * u)+bs:=Nat.mul_succ _ _
 have e2:bs * (2 * u+1+1)=bs * (2 * u)+2 * bs:=by rw [Nat.mul_succ,e1];omega
 refine⟨?_,?_⟩
 ·have:=h3 (2 * u) (Nat.le_refl _);rw [e1] at this;exact this
 ·have:=h3 (2 * u+1) (by rw [e1];omega);rw [e1,e2] at this;exact this
theorem Zz.step {bs:Nat} {cur:List Pr} {a:Nat} (h:Zz bs cur a) (h0:0 < bs) (hb:a+2 * bs≤cur.length):Zz bs (Av cur a (a+2 * bs)) (a+2 * bs):=by
 obtain⟨⟨u,rfl⟩,h2,h3⟩:=h
 have e1:bs * (2 * u)=2 * bs * u:=by rw [Nat.mul_comm 2 bs,Nat.mul_assoc]
 refine⟨⟨u+1,by rw [Nat.mul_add 2 u 1,Nat.mul_add];omega⟩,fun t ht=> ?_,fun t ht=> ?_⟩
 ·rw [e1] at ht hb h2 ⊢
  rcases Xj (by omega) ht with h4 | rfl
  ·rw [Q3 (by omega) hb (Nat.mul_le_mul_left _ (by omega)) h4];exact h2 t h4
  ·rw [Nat.mul_succ (2 * bs) t,U9 (by omega) hb];exact Ft _
 ·rw [Aih (by omega) hb ht];exact h3 t (by omega)
theorem Zz.An7 {bs:Nat} {cur:List Pr} {a n:Nat} (h:Zz bs cur a) (h0:0 < bs) (hn:cur.length=n) (ha:a≤n) (hb:n < a+2 * bs):Blk (2 * bs) (Av cur a n):=by
 obtain⟨⟨u,rfl⟩,h2,h3⟩:=h
 have e1:bs * (2 * u)=2 * bs * u:=by rw [Nat.mul_comm 2 bs,Nat.mul_assoc]
 have h2':∀ t,2 * bs * (t+1)≤2 * bs * u→Bl (Cb cur (2 * bs * t) (2 * bs * (t+1))):=fun t ht=> h2 t (by omega)
 rw [e1] at ha hb ⊢
 exact Ph1.last ⟨⟨u,rfl⟩,h2'⟩ (by omega) hn ha hb
theorem Zz.Apo {bs:Nat} {cur:List Pr} {a n:Nat} (h:Zz bs cur a) (h0:0 < bs) (hn:cur.length=n) (ha:a≤n) (hb:n≤a+bs):Blk (2 * bs) cur:=by
 have h1:=h.two.1
 have hid:Av cur a n=cur:=by
  have e:Cb cur a n=Cb cur a (a+bs):=by rw [Ly (by omega),Ly (by omega)]
  unfold Av
  rw [e,Zc h1,←e]
  exact(Np cur ha (by omega)).symm
 rw [←hid]
 exact Zz.An7 h h0 hn ha (by omega)
theorem Zz.run {bs:Nat} {cur:List Pr} {a n:Nat} (h:Zz bs cur a) (hn:cur.length=n) (hb:n≤a+2 * bs):Bl (Cb cur (a+bs) n):=by
 have:=h.two.2
 rw [Ly (by omega)] at this
 rw [Ly (by omega)]
 exact this
end Go.Proofs.YtbibeionenjmfaaGreatDoor
namespace Go.Proofs.YtbibeionenjmfaaGreatDoor
open Go.RowKit
set_option maxRecDepth 100000 in
set_option maxHeartbeats 4000000 in
theorem Ali (a m b n cap g:Nat) (l:List Pr) {w:World} {base:Nat} (h:Dh w base g n cap l) (hn:n≤1000000000) (hm:m=a+1) (hb:m < b) (hbn:b≤n) (hr:Bl (Cb l m b)):
 Calls Tryz.prog 207 #[.slice (some ⟨g,0,none⟩) n cap, .int .i64 a, .int .i64 m, .int .i64 b, .func (.func 159) #[] #[]] w fun e w'=> e= .returned (.tuple #[])∧Ab (fun q=> q=g) w w'∧Dh w' base g n cap (Av l a b):=by
 have hlen:=Aa h.len
 have H:=Aa h;clear h
 have HR:=Aa hr;clear hr
 have e1:((m:Int) - a ==1)=true:=by simp;omega
 have hm1:a < m:=by omega
 have HM:=Aa hm;clear hm
 obtain⟨x,hx⟩:=get_some (l:=l) (i:=a) (by rw [←hlen.out];omega)
 have HX:=Aa hx
 clear hx
 go_enter Tryz.func207,Tryz.ntmps207
 go_wp2
 go_loopw [10,11] (fun p q wr=> ∃ i j:Nat,p= .int .i64 i∧q= .int .i64 j∧i≤j∧m≤i∧j≤b∧Hid (Ends (fun k=> Cq (el l k) x) m b i j)∧Below w.heap.size w wr) (fun p q _=> (intOf q).toNat - (intOf p).toNat)
 case atStart=> exact⟨m,b,rfl,rfl,by omega,by omega,by omega,Ends.start _ (by omega),Below.refl _ _⟩
 case round=>
  obtain⟨i,j,rfl,rfl,hij,hmi,hjb,HE,hbl⟩:=hrel
  by_cases hlt:i < j
  ·obtain⟨h,hh⟩:∃ h:Nat,((i:Int)+j) / 2=(h:Int):=⟨(i+j) / 2,by omega⟩
   have g1:i≤h:=by omega
   have g2:h < j:=by omega
   obtain⟨y,hy⟩:=get_some (l:=l) (i:=h) (by rw [←hlen.out];omega)
   have ho:=H.out.later hbl
   obtain⟨x0,x1,_,_,_⟩:=Dh.at ho HX.out
   obtain⟨y0,y1,_,_,_⟩:=Dh.at ho hy
   have hel:Hid (el l h=y):=Afa hy
   have f1:(0:Int)≤(h:Int)∧(h:Int) < (n:Int)∧(0:Int)≤(a:Int)∧(a:Int) < (n:Int):=by omega
   obtain⟨f1,f2,f3,f4⟩:=f1
   have f8:=Pa y x
   have HO:=Aa ho
   clear hy ho
   cases hk:Cq y x
   ·rw [hk] at f8
    have HE2:Hid (Ends (fun k=> Cq (el l k) x) m b i h):=HE.out.down g1 g2 (by show Cq (el l h) x=false;rw [hel.out];exact hk)
    clear hk HE
    go_wp2
    go_region_held3 (fun w'=> w'.cell? ⟨g,h * 2,none⟩=some (.string y.1)∧w'.cell? ⟨g,h * 2+1,none⟩=some (.int .i64 y.2)∧w'.cell? ⟨g,a * 2,none⟩=some (.string x.1)∧w'.cell? ⟨g,a * 2+1,none⟩=some (.int .i64 x.2)∧Below wr.heap.size wr w')
     (first | (go_split_ands;exact⟨by simpa using y0,by simpa using y1,by simpa using x0,by simpa using x1,(Below.refl _ _).drew⟩) | (go_split_ands;exact⟨cell_later hb1 (by assumption),cell_later hb1 (by assumption),cell_later hb1 (by assumption),cell_later hb1 (by assumption),Below.trans (by assumption) (hb1.mono (Below.size (by assumption)))⟩))
     ((go_at_call 159;refine(J3 y x _).mono ?_;rintro e w1 ⟨rfl,hb1⟩))
    all_goals
     have hbl1:Below wr.heap.size wr w1:=And.right (And.right (And.right (And.right (by assumption))))
     have hbl2:=hbl.trans (hbl1.mono hbl.size)
     have HH:=Aa hh
     clear hh
     go_wp2
     go_roundw
     case rel=> exact⟨i,h,rfl,rfl,by omega,by omega,by omega,HE2,hbl2⟩
     case measure=> (simp [intOf];try omega)
   ·rw [hk] at f8
    have HE2:Hid (Ends (fun k=> Cq (el l k) x) m b (h+1) j):=HE.out.up g1 g2 (by show Cq (el l h) x=true;rw [hel.out];exact hk)
    clear hk HE
    go_wp2
    go_region_held3 (fun w'=> w'.cell? ⟨g,h * 2,none⟩=some (.string y.1)∧w'.cell? ⟨g,h * 2+1,none⟩=some (.int .i64 y.2)∧w'.cell? ⟨g,a * 2,none⟩=some (.string x.1)∧w'.cell? ⟨g,a * 2+1,none⟩=some (.int .i64 x.2)∧Below wr.heap.size wr w')
     (first | (go_split_ands;exact⟨by simpa using y0,by simpa using y1,by simpa using x0,by simpa using x1,(Below.refl _ _).drew⟩) | (go_split_ands;exact⟨cell_later hb1 (by assumption),cell_later hb1 (by assumption),cell_later hb1 (by assumption),cell_later hb1 (by assumption),Below.trans (by assumption) (hb1.mono (Below.size (by assumption)))⟩))
     ((go_at_call 159;refine(J3 y x _).mono ?_;rintro e w1 ⟨rfl,hb1⟩))
    all_goals
     have hbl1:Below wr.heap.size wr w1:=And.right (And.right (And.right (And.right (by assumption))))
     have hbl2:=hbl.trans (hbl1.mono hbl.size)
     have HH:=Aa hh
     clear hh
     go_wp2
     go_roundw
     case rel=> exact⟨h+1,j,by go_num,rfl,by omega,by omega,by omega,HE2,hbl2⟩
     case measure=> (simp [intOf];try omega)
  ·obtain rfl:j=i:=by omega
   have HL:Hid (Vh l a (j - (a+1))=Av l a b):=by
    have hE:=HE.out;have hR:=HR.out
    rw [HM.out] at hE hR
    exact Zf HX.out (by rw [←hlen.out];omega) (by have:=HM.out;omega) hR hE
   have e2:decide ((j:Int) < j)=false:=by simp
   clear HE
   have hown:=H.out.later hbl
   have HKB:=Aa (Ab.Ai (S:=fun q=> q=g) hbl (Nat.le_refl _))
   have HOWN:=Aa hown
   have HM2:=HM
   clear hown hbl
   obtain⟨wo,hwo⟩:∃ wo:World,wo=wr:=⟨wr,rfl⟩
   subst hwo
   go_wp2
   go_loopw [13] (fun p wr=> ∃ q:Nat,p= .int .i64 ((a:Int)+q)∧(a+q+1≤j)∧Ab (fun q=> q=g) w wr∧Dh wr base g n cap (Vh l a q)) (fun p _=> j - (intOf p).toNat)
   case atStart=> exact⟨0,by go_num,by omega,HKB.out,HOWN.out⟩
   case round=>
    obtain⟨q,rfl,hq,hkb,hown⟩:=hrel
    by_cases hlq:a+q+1 < j
    ·have hlu:=Ab8 l a q
     rw [←hlen.out] at hlu
     obtain⟨u,hu⟩:=get_some (l:=Vh l a q) (i:=a+q) (by omega)
     obtain⟨v,hv⟩:=get_some (l:=Vh l a q) (i:=a+q+1) (by omega)
     obtain⟨u0,u1,uz,uz',_⟩:=Dh.at hown hu
     obtain⟨v0,v1,vz,vz',_⟩:=Dh.at hown hv
     have HS:=Aa (Dh.swap hown hu hv)
     have HK:=Aa (hkb.trans (Nr wr g (a+q) (a+q+1) u v))
     have f1:(0:Int)≤(a:Int)+q∧(a:Int)+q < (n:Int)∧(0:Int)≤(a:Int)+q+1∧(a:Int)+q+1 < (n:Int):=by omega
     obtain⟨f1,f2,f3,f4⟩:=f1
     have f5:IntKind.i64.wrap ((a:Int)+q+1)=(a:Int)+q+1:=IntWalk.i64_in _ (by omega)
     have f7:((a:Int)+q).toNat=a+q:=by omega
     have f8:((a:Int)+q+1).toNat=a+q+1:=by omega
     have f9:decide ((a:Int)+q < (j:Int) - 1)=true:=by simp;omega
     clear hown hkb hu hv hlu
     go_wp2
     go_region
     all_goals
      clear f5 f7 f8
      go_wp2
      go_roundw
      case rel=> exact⟨q+1,by go_num,by omega,HK.out.drew,HS.out.drew⟩
      case measure=> (simp [intOf];try omega)
    ·have f9:decide ((a:Int)+q < (j:Int) - 1)=false:=by simp;omega
     have HQ:=Aa (show q=j - (a+1) by omega)
     go_wp2
     exact bodyPost_ret (v:= .tuple #[]) (by simp [results,Tryz.results207,go_sem]) rfl ⟨rfl,hkb,by rw [←HL.out,←HQ.out];exact hown⟩
set_option maxRecDepth 100000 in
set_option maxHeartbeats 4000000 in
theorem Air (a m b n cap g:Nat) (l:List Pr) {w:World} {base:Nat} (h:Dh w base g n cap l) (hn:n≤1000000000) (hm:b=m+1) (hb:a+1 < m) (hbn:b≤n) (hr:Bl (Cb l a m)):
 Calls Tryz.prog 207 #[.slice (some ⟨g,0,none⟩) n cap, .int .i64 a, .int .i64 m, .int .i64 b, .func (.func 159) #[] #[]] w fun e w'=> e= .returned (.tuple #[])∧Ab (fun q=> q=g) w w'∧Dh w' base g n cap (Av l a b):=by
 have hlen:=Aa h.len
 have H:=Aa h;clear h
 have HR:=Aa hr;clear hr
 have e0:((m:Int) - a ==1)=false:=by rw [beq_eq_false_iff_ne];omega
 have e1:((b:Int) - m ==1)=true:=by simp;omega
 have hm1:m < b:=by omega
 have HM:=Aa hm;clear hm
 obtain⟨x,hx⟩:=get_some (l:=l) (i:=m) (by rw [←hlen.out];omega)
 have HX:=Aa hx
 clear hx
 go_enter Tryz.func207,Tryz.ntmps207
 go_wp2
 go_loopw [14,15] (fun p q wr=> ∃ i j:Nat,p= .int .i64 i∧q= .int .i64 j∧i≤j∧a≤i∧j≤m∧Hid (Ends (fun k=> !Cq x (el l k)) a m i j)∧Below w.heap.size w wr) (fun p q _=> (intOf q).toNat - (intOf p).toNat)
 case atStart=> exact⟨a,m,rfl,rfl,by omega,by omega,by omega,Ends.start _ (by omega),Below.refl _ _⟩
 case round=>
  obtain⟨i,j,rfl,rfl,hij,hmi,hjb,HE,hbl⟩:=hrel
  by_cases hlt:i < j
  ·obtain⟨h,hh⟩:∃ h:Nat,((i:Int)+j) / 2=(h:Int):=⟨(i+j) / 2,by omega⟩
   have g1:i≤h:=by omega
   have g2:h < j:=by omega
   obtain⟨y,hy⟩:=get_some (l:=l) (i:=h) (by rw [←hlen.out];omega)
   have ho:=H.out.later hbl
   obtain⟨x0,x1,_,_,_⟩:=Dh.at ho HX.out
   obtain⟨y0,y1,_,_,_⟩:=Dh.at ho hy
   have hel:Hid (el l h=y):=Afa hy
   have f1:(0:Int)≤(h:Int)∧(h:Int) < (n:Int)∧(0:Int)≤(m:Int)∧(m:Int) < (n:Int):=by omega
   obtain⟨f1,f2,f3,f4⟩:=f1
   have f8:=Pa x y
   have HO:=Aa ho
   clear hy ho
   cases hk:Cq x y
   ·rw [hk] at f8
    have HE2:Hid (Ends (fun k=> !Cq x (el l k)) a m (h+1) j):=HE.out.up g1 g2 (by show(!Cq x (el l h))=true;rw [hel.out,hk];rfl)
    clear hk HE
    go_wp2
    go_region_held3 (fun w'=> w'.cell? ⟨g,h * 2,none⟩=some (.string y.1)∧w'.cell? ⟨g,h * 2+1,none⟩=some (.int .i64 y.2)∧w'.cell? ⟨g,m * 2,none⟩=some (.string x.1)∧w'.cell? ⟨g,m * 2+1,none⟩=some (.int .i64 x.2)∧Below wr.heap.size wr w')
     (first | (go_split_ands;exact⟨by simpa using y0,by simpa using y1,by simpa using x0,by simpa using x1,(Below.refl _ _).drew⟩) | (go_split_ands;exact⟨cell_later hb1 (by assumption),cell_later hb1 (by assumption),cell_later hb1 (by assumption),cell_later hb1 (by assumption),Below.trans (by assumption) (hb1.mono (Below.size (by assumption)))⟩))
     ((go_at_call 159;refine(J3 x y _).mono ?_;rintro e w1 ⟨rfl,hb1⟩))
    all_goals
     have hbl1:Below wr.heap.size wr w1:=And.right (And.right (And.right (And.right (by assumption))))
     have hbl2:=hbl.trans (hbl1.mono hbl.size)
     have HH:=Aa hh
     clear hh
     go_wp2
     go_roundw
     case rel=> exact⟨h+1,j,by go_num,rfl,by omega,by omega,by omega,HE2,hbl2⟩
     case measure=> (simp [intOf];try omega)
   ·rw [hk] at f8
    have HE2:Hid (Ends (fun k=> !Cq x (el l k)) a m i h):=HE.out.down g1 g2 (by show(!Cq x (el l h))=false;rw [hel.out,hk];rfl)
    clear hk HE
    go_wp2
    go_region_held3 (fun w'=> w'.cell? ⟨g,h * 2,none⟩=some (.string y.1)∧w'.cell? ⟨g,h * 2+1,none⟩=some (.int .i64 y.2)∧w'.cell? ⟨g,m * 2,none⟩=some (.string x.1)∧w'.cell? ⟨g,m * 2+1,none⟩=some (.int .i64 x.2)∧Below wr.heap.size wr w')
     (first | (go_split_ands;exact⟨by simpa using y0,by simpa using y1,by simpa using x0,by simpa using x1,(Below.refl _ _).drew⟩) | (go_split_ands;exact⟨cell_later hb1 (by assumption),cell_later hb1 (by assumption),cell_later hb1 (by assumption),cell_later hb1 (by assumption),Below.trans (by assumption) (hb1.mono (Below.size (by assumption)))⟩))
     ((go_at_call 159;refine(J3 x y _).mono ?_;rintro e w1 ⟨rfl,hb1⟩))
    all_goals
     have hbl1:Below wr.heap.size wr w1:=And.right (And.right (And.right (And.right (by assumption))))
     have hbl2:=hbl.trans (hbl1.mono hbl.size)
     have HH:=Aa hh
     clear hh
     go_wp2
     go_roundw
     case rel=> exact⟨i,h,rfl,rfl,by omega,by omega,by omega,HE2,hbl2⟩
     case measure=> (simp [intOf];try omega)
  ·obtain rfl:j=i:=by omega
   have HL:Hid (Hk l m (m - j)=Av l a b):=by
    rw [HM.out]
    exact V4 HX.out (by omega) HR.out HE.out
   have e2:decide ((j:Int) < j)=false:=by simp
   clear HE
   have hown:=H.out.later hbl
   have HKB:=Aa (Ab.Ai (S:=fun q=> q=g) hbl (Nat.le_refl _))
   have HOWN:=Aa hown
   have HM2:=HM
   clear hown hbl
   obtain⟨wo,hwo⟩:∃ wo:World,wo=wr:=⟨wr,rfl⟩
   subst hwo
   go_wp2
   go_loopw [17] (fun p wr=> ∃ q z:Nat,p= .int .i64 z∧z+q=m∧j≤z∧Ab (fun q=> q=g) w wr∧Dh wr base g n cap (Hk l m q)) (fun p _=> (intOf p).toNat)
   case atStart=> exact⟨0,m,rfl,by omega,by omega,HKB.out,HOWN.out⟩
   case round=>
    obtain⟨q,z,rfl,hz,hjz,hkb,hown⟩:=hrel
    by_cases hlq:j < z
    ·obtain⟨z,rfl⟩:∃ z',z=z'+1:=⟨z - 1,by omega⟩
     have hlu:=Tv l m q
     rw [←hlen.out] at hlu
     obtain⟨u,hu⟩:=get_some (l:=Hk l m q) (i:=z+1) (by omega)
     obtain⟨v,hv⟩:=get_some (l:=Hk l m q) (i:=z) (by omega)
     obtain⟨u0,u1,uz,uz',_⟩:=Dh.at hown hu
     obtain⟨v0,v1,vz,vz',_⟩:=Dh.at hown hv
     have hsw:=Dh.swap hown hu hv
     have e5:Hk l m (q+1)=swapAt (Hk l m q) (z+1) z:=by
      show swapAt _ _ _=_
      rw [show m - q - 1=z by omega,show m - q=z+1 by omega]
     rw [←e5] at hsw
     have HS:=Aa hsw
     have HK:=Aa (hkb.trans (Nr wr g (z+1) z u v))
     have f1:(0:Int)≤(z:Int)+1∧(z:Int)+1 < (n:Int)∧(0:Int)≤(z:Int)∧(z:Int) < (n:Int):=by omega
     obtain⟨f1,f2,f3,f4⟩:=f1
     have f5:IntKind.i64.wrap (z:Int)=(z:Int):=IntWalk.i64_in _ (by omega)
     have f7:((z:Int)+1).toNat=z+1:=by omega
     have f9:decide ((j:Int) < (z:Int)+1)=true:=by simp;omega
     clear hown hkb hu hv hlu hsw e5
     go_wp2
     go_region
     all_goals
      clear f5 f7
      go_wp2
      go_roundw
      case rel=> exact⟨q+1,z,by go_num,by omega,by omega,HK.out.drew,HS.out.drew⟩
      case measure=> (simp [intOf];try omega)
    ·have f9:decide (j < z)=false:=by simp;omega
     have HQ:=Aa (show q=m - j by omega)
     go_wp2
     exact bodyPost_ret (v:= .tuple #[]) (by simp [results,Tryz.results207,go_sem]) rfl ⟨rfl,hkb,by rw [←HL.out,←HQ.out];exact hown⟩
end Go.Proofs.YtbibeionenjmfaaGreatDoor
