/- order.Merge: lists that rise, as one. -/
import Derived.Test.YtbibeionenjmfaaGreatDoorZSort4
import Derived.Test.YtbibeionenjmfaaGreatDoorZBench3
import Derived.Test.YtbibeionenjmfaaGreatDoorZApp2
import Derived.Lib.SliceRun
set_option linter.unusedSimpArgs false
set_option linter.unusedVariables false
namespace Go.Proofs.YtbibeionenjmfaaGreatDoor
open Go.RowKit
theorem Aj8:(Tryz.prog.info? 202).map (fun i=> (i.zero,i.size,i.bytes))=some (some (.agg #[.string ⟨#[]⟩, .int .i64 0]),2,24):=by kernel_rfl
end Go.Proofs.YtbibeionenjmfaaGreatDoor
namespace Go.Proofs.YtbibeionenjmfaaGreatDoor
open Go.RowKit
set_option maxHeartbeats 1000000 in
theorem Zm (ao:Option Addr) (cap:Nat) (l:List Pr) (w:World) (hl:l.length≤1000000000) (hs:Sl 2 Bt w ao l):
 Calls Tryz.prog 157 #[.slice ao l.length cap] w fun e w'=> ∃ v,e= .returned v∧Own 2 Bt 202 w' w.heap.size v l∧Below w.heap.size w w':=by
 obtain⟨i0,hi,hz0,hz1,hz2⟩:=info_parts Aj8
 have hen:∀ w:World,(binOp .eql 157 (.slice ao l.length cap) (.slice none 0 0)).run Tryz.prog w= .ok (.bool ao.isNone) w:=fun w=> Lib.run_eql_slice_nil w _ _ _ _ _ _ _ Tryz.underlying157
 cases ao with
 | none=>
   have h0:l= []:=by
    rcases Nat.eq_zero_or_pos l.length with e | e
    ·exact List.length_eq_zero_iff.1 e
    ·obtain⟨b,off,e',_⟩:=hs e;cases e'
   subst h0
   have hen':∀ w:World,(binOp .eql 157 (.slice none 0 cap) (.slice none 0 0)).run Tryz.prog w= .ok (.bool true) w:=hen
   clear hen
   go_enter Tryz.func157,Tryz.ntmps157
   go_wp2
   go_ret
   exact⟨_,rfl,Own.nil,Below.refl _ _⟩
 | some ad=>
   have hen':∀ w:World,(binOp .eql 157 (.slice (some ad) l.length cap) (.slice none 0 0)).run Tryz.prog w= .ok (.bool false) w:=hen
   clear hen
   have hnews:=Sl.Ac2 Bn (by decide) hs
   go_enter Tryz.func157,Tryz.ntmps157
   have ow0:Own 2 Bt 202 (w.alloc (.cells #[] 202)) w.heap.size (.slice (some ⟨w.heap.size,0,none⟩) 0 0) ([]:List Pr):=Own.lit (l:= []) Bn (B3 _ _) (Nat.le_refl _) rfl (by simp)
   have hnews2:∀ (j:Nat) (u:Value),(l.flatMap Bt)[j]?=some u→(w.alloc (.cells #[] 202)).cell? (ad.add j)=some u:=fun j u h=> cell_later ((Below.refl _ _).alloc (Nat.le_refl _) _) (hnews j u h)
   have HN:=Aa hnews2
   clear hnews hnews2
   go_wp2_with (at_builtin;refine Jk Bn _ _ 157 i0 _ rfl rfl Tryz.underlying157 hi hz0 hz1 hz2 rfl (by decide) (by decide) ow0 ((Below.refl w.heap.size w).alloc (Nat.le_refl _) _) ?c1 l ?c2 rfl ad cap l.length rfl rfl HN.out (Mt Kx) ?_)
   case c1=> simp
   case c2=> simp;omega
   intro v' w1 ho hb _ _
   go_wp2
   go_ret
   exact⟨v',rfl,by simpa using ho,hb⟩
end Go.Proofs.YtbibeionenjmfaaGreatDoor
namespace Go.Proofs.YtbibeionenjmfaaGreatDoor
open Go.RowKit
abbrev Qe:=Option Addr×Nat×List Pr
def Kb (r:Qe):List Value:= [.slice r.1 r.2.2.length r.2.1]
theorem Ty (r:Qe):(Kb r).length=1:=rfl
theorem Sl.row {w:World} {ao:Option Addr} {l:List Qe} (h:Sl 1 Kb w ao l) {k:Nat} (hk:k < l.length):
 ∃ b off ra rc rl,ao=some ⟨b,off,none⟩∧b < w.heap.size∧l[k]?=some (ra,rc,rl)∧w.cell? ⟨b,off+k,none⟩=some (.slice ra rl.length rc):=by
 obtain⟨b,off,e,hlt,hc⟩:=h (by omega)
 refine⟨b,off,l[k].1,l[k].2.1,l[k].2.2,e,hlt,by simp [hk],?_⟩
 have:=hc k l[k] 0 _ (by simp [hk]) rfl
 simpa using this
def Apk (n:Nat):List Value:= [.int .i64 n]
theorem Tx (n:Nat):(Apk n).length=1:=rfl
def lenOf:Value→Nat
 | .slice _ n _=> n
 | _=> 0
def Cz (rs:List Qe):List (List Pr):=rs.map (·.2.2)
theorem Aif {rs:List Qe} {k:Nat} {a:Option Addr} {c:Nat} {l:List Pr} (h:rs[k]?=some (a,c,l)):(Cz rs)[k]?=some l:=by
 unfold Cz;rw [List.getElem?_map,h];rfl
structure MG (w wr:World) (rs:List Qe) (A:List Nat) (out:List Pr) (v:Value):Prop where
 oo:Own 2 Bt 202 wr (w.heap.size+1) v out
 oa:Own 1 Apk 3 wr w.heap.size (.slice (some ⟨w.heap.size,0,none⟩) rs.length rs.length) A
 la:A.length=rs.length
 E5:Below w.heap.size w wr
 eq:out++Dz (left A (Cz rs)).flatten=Dz (Cz rs).flatten
 lt:w.heap.size < wr.heap.size
theorem Aj7:(Tryz.prog.info? 3).map (fun i=> (i.zero,i.size,i.bytes))=some (some (.int .i64 0),1,8):=by kernel_rfl
theorem MG.drewN {w wr:World} {rs:List Qe} {A:List Nat} {out:List Pr} {v:Value} (h:MG w wr rs A out v) (n:Nat):MG w (wr.drewN n) rs A out v:=
 ⟨h.oo.drewN n,h.oa.drewN n,h.la,below_drewN h.E5 n,h.eq,h.lt⟩
theorem MG.here {w wr:World} {ao:Option Addr} {rs:List Qe} {A:List Nat} {out:List Pr} {v:Value} (h:MG w wr rs A out v) (hs:Sl 1 Kb w ao rs) (hrow:∀ r∈rs,Sl 2 Bt w r.1 r.2.2) {k:Nat} (hk:k < rs.length):
 ∃ b off ra rc l a,ao=some ⟨b,off,none⟩∧b < w.heap.size∧(Cz rs)[k]?=some l∧A[k]?=some a∧wr.cell? ⟨b,off+k,none⟩=some (.slice ra l.length rc)∧wr.cell? ⟨w.heap.size,k,none⟩=some (.int .i64 a)∧
   (a < l.length→∃ b2 off2 x y,ra=some ⟨b2,off2,none⟩∧b2 < w.heap.size∧l[a]?=some (x,y)∧wr.cell? ⟨b2,off2+a * 2,none⟩=some (.string x)∧wr.cell? ⟨b2,off2+a * 2+1,none⟩=some (.int .i64 y)):=by
 obtain⟨b,off,ra,rc,l,e1,_,e2,e3⟩:=(hs.later h.E5 (Nat.le_refl _)).row hk
 have ha:A[k]?=some (A[k]'(by rw [h.la];exact hk)):=List.getElem?_eq_getElem _
 have hc:=Own.cellAt (j:=0) Tx h.oa ha rfl
 obtain⟨b',off',e1',hbw,_⟩:=hs (by omega)
 rw [e1] at e1'
 cases e1'
 refine⟨b,off,ra,rc,l,_,e1,hbw,Aif e2,ha,e3,by simpa using hc,fun hlt=> ?_⟩
 obtain⟨b2,off2,x,y,f1,_,f2,f3,f4⟩:=((hrow _ (List.mem_of_getElem? e2)).later h.E5 (Nat.le_refl _)).pair hlt
 obtain⟨b',off',e1',hbw2,_⟩:=hrow _ (List.mem_of_getElem? e2) (by show 0 < l.length;omega)
 rw [f1] at e1'
 cases e1'
 exact⟨b2,off2,x,y,f1,hbw2,f2,f3,f4⟩
set_option maxRecDepth 100000 in
set_option maxHeartbeats 4000000 in
theorem Agp (ao:Option Addr) (cap:Nat) (rs:List Qe) (w:World) (hl:rs.length≤100000) (htot:(Cz rs).flatten.length≤100000000) (hr:∀ l∈Cz rs,Bl l) (hs:Sl 1 Kb w ao rs) (hrow:∀ r∈rs,Sl 2 Bt w r.1 r.2.2):
 Calls Tryz.prog 112 #[.slice ao rs.length cap] w fun e w'=> ∃ v,e= .returned v∧Own 2 Bt 202 w' w.heap.size v (Dz (Cz rs).flatten)∧Below w.heap.size w w':=by
 obtain⟨ip,hpi,hpz0,hpz1,hpz2⟩:=info_parts Aj8
 obtain⟨ii,hii,hiz0,hiz1,hiz2⟩:=info_parts Aj7
 have HR:=Aa hr
 have HROW:=Aa hrow
 have HTOT:=Aa htot
 clear hr hrow htot
 go_enter Tryz.func112,Tryz.ntmps112
 go_wp2_with (refine Ld Tx _ _ 55 ii _ (0:Nat) rs.length rfl rfl Tryz.underlying55 hii hiz0 hiz1 rfl rfl (by rw [hiz2];decide) rfl rfl (by omega) (Below.refl w.heap.size w) (Nat.le_refl _) ?_;intro w1 ho1 hb1 hb1' hlt1;clear hb1')
 have H1:MG w w1 rs (List.replicate rs.length 0) [] (.slice none 0 0):=⟨Own.nil,ho1,by simp,hb1,by
  have:left (List.replicate rs.length 0) (Cz rs)=Cz rs:=by have:=Ahx (Cz rs);rwa [show(Cz rs).length=rs.length by simp [Cz]] at this
  rw [this];rfl,hlt1⟩
 clear ho1 hb1 hlt1
 go_wp2
 go_loopw [4] (fun v wr=> ∃ A out,MG w wr rs A out v) (fun v _=> 100000000 - lenOf v)
 case atStart=> exact⟨_,_,H1⟩
 clear H1
 case round=>
  obtain⟨A,out,hm⟩:=hrel
  obtain⟨wo,rfl⟩:∃ wo:World,wo=wr:=⟨wr,rfl⟩
  have HM:=Aa hm
  have hls:=hm.lt
  clear hm
  go_wp2
  go_loopw [5,13] (fun b i wr=> ∃ k:Nat,∃ bb:Int,k≤rs.length∧i= .int .i64 k∧b= .int .i64 bb∧Hid (Hh (left A (Cz rs)) k bb)∧MG w wr rs A out u4) (fun _ i _=> rs.length - (intOf i).toNat)
  case atStart=> exact⟨0, -1,by omega,rfl,rfl,Hh.zero _,HM.out⟩
  case round=>
   obtain⟨k,bb,hk,rfl,rfl,HB,hm⟩:=hrel
   have hbr:=HB.out.range
   by_cases hlt:k < rs.length
   ·obtain⟨b,off,ra,rc,l,a,rfl,hbw,hL,hA,c0,c1,hin⟩:=hm.here hs HROW.out hlt
    have HM2:=Aa hm
    have HHS:=Aa hs
    have HL:=Aa hL
    have HA:=Aa hA
    clear hm hL hA hs
    have f1:(0:Int)≤(k:Int)∧(k:Int) < (rs.length:Int)∧(0:Int)≤(a:Int):=by omega
    obtain⟨f1,f2,f3⟩:=f1
    by_cases hal:a < l.length
    ·obtain⟨b2,off2,x,y,rfl,hbw2,hp,d0,d1⟩:=hin hal
     have g1:decide (a < l.length)=true:=by simpa using hal
     have g2:(a:Int) < (l.length:Int):=by omega
     have HX:=Aa (left_at HA.out HL.out hp)
     clear hin hp
     by_cases hb0:bb < 0
     ·obtain rfl:bb= -1:=by omega
      have HN:=Aa (HB.out.first HX.out)
      clear HX HB
      go_wp2
      go_quiet (fail)
      go_wp2
      go_roundw
      case rel=> exact⟨k+1,k,by omega,by go_num,rfl,HN,HM2.out.drewN _⟩
      case measure=> (simp [intOf];try omega)
     ·obtain⟨m,rfl⟩:∃ m:Nat,bb=m:=⟨bb.toNat,by omega⟩
      obtain⟨b',off',ra2,rc2,l2,a2,e1,_,hL2,hA2,c2,c3,hin2⟩:=HM2.out.here HHS.out HROW.out (k:=m) (by omega)
      cases e1
      obtain⟨xh,th,HH⟩:=HB.out.head
      have hlt2:=Afn hA2 hL2 HH
      obtain⟨b3,off3,x2,y2,rfl,_,hp2,d2,d3⟩:=hin2 hlt2
      have HX2:=Aa (left_at hA2 hL2 hp2)
      have g3:(a2:Int) < (l2.length:Int)∧(0:Int)≤(a2:Int)∧(0:Int)≤(m:Int)∧(m:Int) < (rs.length:Int):=by omega
      obtain⟨g3,g4,g5,g6⟩:=g3
      have g7:decide ((m:Int) < 0)=false:=by simp
      have hyes:Hid (Cq (x,y) (x2,y2)=true→Hh (left A (Cz rs)) (k+1) k):=fun h=> HB.out.better HX2.out HX.out h
      have hno:Hid (Cq (x,y) (x2,y2)=false→Hh (left A (Cz rs)) (k+1) m):=fun h=> HB.out.Ahv HX2.out HX.out h
      clear hin2 hA2 hL2 hp2 HH HX HX2 HB
      cases hkl:Cq (x,y) (x2,y2)
      ·have HN:=Aa (hno.out hkl)
       have g8:Op.bytesLess x.toList x2.toList=false:=hkl
       clear hyes hno hkl
       go_wp2
       go_quiet (fail)
       go_wp2
       go_roundw
       case rel=> exact⟨k+1,m,by omega,by go_num,rfl,HN,HM2.out.drewN _⟩
       case measure=> (simp [intOf];try omega)
      ·have HN:=Aa (hyes.out hkl)
       have g8:Op.bytesLess x.toList x2.toList=true:=hkl
       clear hyes hno hkl
       go_wp2
       go_quiet (fail)
       go_wp2
       go_roundw
       case rel=> exact⟨k+1,k,by omega,by go_num,rfl,HN,HM2.out.drewN _⟩
       case measure=> (simp [intOf];try omega)
    ·have g1:decide (a < l.length)=false:=by simpa using hal
     have HN:=Aa (HB.out.skip (Akp HA.out HL.out (by omega)))
     clear hin HB
     go_wp2
     go_quiet (fail)
     go_wp2
     go_roundw
     case rel=> exact⟨k+1,bb,by omega,by go_num,rfl,HN,HM2.out.drewN _⟩
     case measure=> (simp [intOf];try omega)
   ·obtain rfl:k=rs.length:=by omega
    have hB:Hh (left A (Cz rs)) (left A (Cz rs)).length bb:=by rw [Abc (by simp [Cz,hm.la])];simpa [Cz] using HB.out
    clear HB HM
    by_cases hb0:bb < 0
    ·obtain rfl:bb= -1:=by omega
     have hn:=hB.no
     have hq:=hm.eq
     rw [hn] at hq
     have HQ:Hid (out=Dz (Cz rs).flatten):=by show _=_;rw [←hq];simp [Dz]
     clear hn hq hB
     go_wp2
     go_ret
     exact⟨_,rfl,by rw [←HQ.out];exact hm.oo.B6 (by omega),hm.E5⟩
    ·obtain⟨m,rfl⟩:∃ m:Nat,bb=m:=⟨bb.toNat,by omega⟩
     obtain⟨p,t,hp,hsrt⟩:=hB.yes (Ahw HR.out)
     obtain⟨b,off,ra,rc,l,a,rfl,hbw,hL,hA,c0,c1,hin⟩:=hm.here hs HROW.out (k:=m) (by omega)
     have hal:=Afn hA hL hp
     obtain⟨b2,off2,x,y,rfl,hbw2,hp2,d0,d1⟩:=hin hal
     have hpe:p=(x,y):=by
      have h1:=left_at hA hL hp2
      rw [hp] at h1
      cases h1;rfl
     subst hpe
     have hset:=Akq hA hL hp
     have hq:=hm.eq
     rw [hsrt] at hq
     have HQ:Hid ((out++ [(x,y)])++Dz (left (A.set m (a+1)) (Cz rs)).flatten=Dz (Cz rs).flatten):=by show _=_;rw [hset,←hq];simp
     have hlen:Hid (out.length+1≤100000000):=by
      have:=congrArg List.length HQ.out
      rw [List.length_append,List.length_append,Fg,Fg,List.length_singleton] at this
      have h2:(Cz rs).flatten.length≤100000000:=HTOT.out
      show _≤_
      omega
     have hoo:=hm.oo
     have hoa:=hm.oa
     have hlaA:=Aa hm.la
     have hbel:=hm.E5
     have HA:=Aa hA
     have f1:(0:Int)≤(m:Int)∧(m:Int) < (rs.length:Int)∧(0:Int)≤(a:Int)∧(a:Int) < (l.length:Int):=by omega
     obtain⟨f1,f2,f3,f4⟩:=f1
     have g7:decide ((m:Int) < 0)=false:=by simp
     have hfin:∀ w1,World.grownBy ((wr.alloc (.cells #[.string x, .int .i64 y] 202)).drew) w1 u4.ownBlock→w1.cell? ⟨b,off+m,none⟩=some (.slice (some ⟨b2,off2,none⟩) l.length rc)∧w1.cell? ⟨w.heap.size,m,none⟩=some (.int .i64 a)∧w1.cell? ⟨b2,off2+a * 2,none⟩=some (.string x)∧w1.cell? ⟨b2,off2+a * 2+1,none⟩=some (.int .i64 y):=by
      intro w1 hgr
      have KB:=Ab.A9 (S:=fun q=> u4.ownBlock=some q) hgr (fun q e=> e)
      have hb:Below wr.heap.size wr ((wr.alloc (.cells #[.string x, .int .i64 y] 202)).drew):=((Below.refl _ _).alloc (Nat.le_refl _) _).drew
      exact⟨KB.cell (cell_later hb c0) (fun e=> by have h:=(hoo.lt _ e).1;dsimp only at h;omega),KB.cell (cell_later hb c1) (fun e=> by have h:=(hoo.lt _ e).1;dsimp only at h;omega),KB.cell (cell_later hb d0) (fun e=> by have h:=(hoo.lt _ e).1;dsimp only at h;omega),KB.cell (cell_later hb d1) (fun e=> by have h:=(hoo.lt _ e).1;dsimp only at h;omega)⟩
     have HFIN:=Aa hfin
     have hoo2:Own 2 Bt 202 ((wr.alloc (.cells #[.string x, .int .i64 y] 202)).drew) (w.heap.size+1) u4 out:=(hoo.alloc _).drew
     have hlm:=hm.lt
     have hbe2:Below (w.heap.size+1) wr ((wr.alloc (.cells #[.string x, .int .i64 y] 202)).drew):=((Below.refl _ _).alloc (by omega) _).drew
     have hnews:∀ (j:Nat) (u:Value),(Bt (x,y))[j]?=some u→((wr.alloc (.cells #[.string x, .int .i64 y] 202)).drew).cell? ((⟨wr.heap.size,0,none⟩:Addr).add j)=some u:=by
      intro j u hj
      have K:=(Bk.new (w:=wr) (cs:= #[.string x, .int .i64 y]) (t:=202) rfl).get (j:=j) hj
      rw [Acy _ _ _ _ rfl,Nat.zero_add]
      simpa using K
     have HNW:=Aa hnews
     have HOO:=Aa hoo2
     have HBE:=Aa hbe2
     have HOU:=Aa hoo.1
     have hla:l.length≤100000000:=by
      have h2:(Cz rs).flatten.length≤100000000:=HTOT.out
      rw [(Ro hL []).1,List.length_append,List.length_append] at h2
      omega
     have hlen':out.length+1≤1000000000:=by have h:out.length+1≤100000000:=hlen.out;omega
     clear hin hp hp2 hset hq hsrt hB hm hL hA hfin hnews hoo2 hbe2
     go_wp2
     go_region_held3 (fun w'=> w'.cell? ⟨b,off+m,none⟩=some (.slice (some ⟨b2,off2,none⟩) l.length rc)∧w'.cell? ⟨w.heap.size,m,none⟩=some (.int .i64 a)∧w'.cell? ⟨b2,off2+a * 2,none⟩=some (.string x)∧w'.cell? ⟨b2,off2+a * 2+1,none⟩=some (.int .i64 y))
      (first | go_keep | exact HFIN.out _ hgr)
      ((refine Cs Bn _ _ 157 ip _ rfl rfl Tryz.underlying157 hpi hpz0 hpz1 hpz2 rfl (by decide) (by decide) HOO.out HBE.out (by simp;omega) hlen' rfl (x,y) ⟨wr.heap.size,0,none⟩ 1 rfl HNW.out (Kx _) ?_;intro v' w1 hown1 hb1 hgr hat))
     all_goals
      have KB:=Ab.A9 (S:=fun q=> u4.ownBlock=some q) hgr (fun q e=> e)
      have hoa1:=KB.own ((hoa.alloc (.cells #[.string x, .int .i64 y] 202)).drew) (fun q e=> by have e':w.heap.size=q:=Option.some.inj e;intro e2;have h:=(hoo.lt _ e2).1;omega)
      have hbel1:Below w.heap.size w w1:=hbel.trans (hb1.mono (by omega))
      have hz1:=hoa1.frozenAt m
      have hla1:(A.set m (a+1)).length=rs.length:=by rw [List.length_set];exact hlaA.out
      have hsz1:w.heap.size < w1.heap.size:=by have:=hb1.size;omega
      have HQ1:=Aa hoa1
      have HA1:=Aa hown1
      have c1':w1.cell? ⟨w.heap.size,m,none⟩=some (.int .i64 a):=And.left (And.right (by assumption))
      clear HFIN HNW HOO HBE hgr hat KB hoa1 hown1 hoo hoa c0 c1 d0 d1 hb1 hlen'
      go_wp2
      go_roundw
      case rel=> exact⟨_,_,HA1.out.setOther (fun e=> by have h:=(HA1.out.lt _ e).1;dsimp only at h;omega) _,by simpa using Own.Pv (j:=0) (y:=a+1) Tx HQ1.out HA.out (by decide) rfl,hla1,hbel1.setCell (p:=⟨w.heap.size,m,none⟩) (Nat.le_refl _) _,HQ.out,by simpa [World.setCell] using hsz1⟩
      case measure=>
       obtain⟨a1,c1,e1⟩:=HA1.out.1
       obtain⟨a2,c2,e2⟩:=HOU.out
       rw [e1,e2]
       have h:=hlen.out
       simp [lenOf]
       simp at h
       omega
end Go.Proofs.YtbibeionenjmfaaGreatDoor
namespace Go.Proofs.YtbibeionenjmfaaGreatDoor
open Go.RowKit
structure O7 (w:World) (base ob:Nat) (vs:List Value) (ls:List (List Pr)):Prop where
 bk:Bk w ob vs
 len:vs.length=ls.length
 lo:base≤ob
 own:∀ (i:Nat) v l,vs[i]?=some v→ls[i]?=some l→Own 2 Bt 202 w base v l
 ne:∀ (i:Nat) v,vs[i]?=some v→v.ownBlock≠some ob
 apart:∀ (i j:Nat) u v q,i≠j→vs[i]?=some u→vs[j]?=some v→u.ownBlock=some q→v.ownBlock≠some q
theorem O7.later {w w':World} {base ob:Nat} {vs:List Value} {ls:List (List Pr)} (h:O7 w base ob vs ls) (hb:Below w.heap.size w w'):O7 w' base ob vs ls:=
 ⟨h.bk.later hb,h.len,h.lo,fun i v l a b=> (h.own i v l a b).later hb,h.ne,h.apart⟩
theorem O7.row {w:World} {base ob:Nat} {vs:List Value} {ls:List (List Pr)} (h:O7 w base ob vs ls) {k:Nat} (hk:k < ls.length):∃ v l,vs[k]?=some v∧ls[k]?=some l∧Own 2 Bt 202 w base v l∧w.cell? ⟨ob,k,none⟩=some v:=by
 have hkv:k < vs.length:=by have h1:=h.len;omega
 have hv:vs[k]?=some vs[k]:=List.getElem?_eq_getElem hkv
 have hl:ls[k]?=some ls[k]:=List.getElem?_eq_getElem hk
 exact⟨_,_,hv,hl,h.own k _ _ hv hl,h.bk.get hv⟩
theorem O7.put {W A w1:World} {base ob k:Nat} {vs:List Value} {ls:List (List Pr)} {v v':Value} {l l':List Pr} (h:O7 W base ob vs ls) (hv:vs[k]?=some v) (hA:Below W.heap.size W A) (hs:W.heap.size≤A.heap.size)
 (ho:Own 2 Bt 202 w1 base v' l') (hg:A.grownBy w1 v.ownBlock) (hat:∀ q,v'.ownBlock=some q→v.ownBlock=some q∨W.heap.size≤q):
 O7 (w1.setCell ⟨ob,k,none⟩ v') base ob (vs.set k v') (ls.set k l')∧w1.frozen? ⟨ob,k,none⟩=false∧w1.cell? ⟨ob,k,none⟩=some v:=by
 have hk1:Ab (fun q=> v.ownBlock=some q) A w1:=Ab.A9 hg fun q e=> e
 have hbA:=h.bk.later hA
 have hb1:=hbA.kept hk1 (h.ne k v hv)
 have hob:=h.bk.lt
 have hkl:k < vs.length:=(List.getElem?_eq_some_iff.1 hv).1
 have hv'ob:v'.ownBlock≠some ob:=fun e=> by
  rcases hat _ e with e2 | hm
  ·exact h.ne k v hv e2
  ·omega
 have hlt:∀ (i:Nat) u q,vs[i]?=some u→u.ownBlock=some q→q < W.heap.size:=fun i u q hu hq=> by
  have hil:i < ls.length:=by have h1:=(List.getElem?_eq_some_iff.1 hu).1;have h2:=h.len;omega
  exact((h.own i u _ hu (List.getElem?_eq_getElem hil)).lt q hq).2
 refine⟨⟨hb1.set (k:=k) (u:=v) v' hv,by rw [List.length_set,List.length_set];exact h.len,h.lo,fun i u m hu hm=> ?_,fun i u hu=> ?_,fun i j u x q hij hu hx hq=> ?_⟩,hb1.fz k,hb1.get hv⟩
 ·by_cases e:i=k
  ·subst e
   rw [List.getElem?_set_self hkl] at hu
   rw [List.getElem?_set_self (by have:=h.len;omega)] at hm
   cases hu;cases hm
   exact ho.setOther hv'ob _
  ·rw [List.getElem?_set_ne (fun e2=> e e2.symm)] at hu hm
   have h1:=(h.own i u m hu hm).later hA
   have h2:=hk1.own h1 fun q hq e2=> h.apart i k u v q e hu hv hq e2
   exact h2.setOther (h.ne i u hu) _
 ·by_cases e:i=k
  ·subst e
   rw [List.getElem?_set_self hkl] at hu
   cases hu
   exact hv'ob
  ·rw [List.getElem?_set_ne (fun e2=> e e2.symm)] at hu
   exact h.ne i u hu
 ·by_cases ei:i=k
  ·subst ei
   rw [List.getElem?_set_self hkl] at hu
   cases hu
   rw [List.getElem?_set_ne hij] at hx
   intro hxq
   rcases hat q hq with e2 | hm
   ·exact h.apart i j v x q hij hv hx e2 hxq
   ·have:=hlt j x _ hx hxq
    omega
  ·rw [List.getElem?_set_ne (fun e2=> ei e2.symm)] at hu
   by_cases ej:j=k
   ·subst ej
    rw [List.getElem?_set_self hkl] at hx
    cases hx
    intro hxq
    rcases hat q hxq with e2 | hm
    ·exact h.apart i j u v q hij hu hv hq e2
    ·have:=hlt i u _ hu hq
     omega
   ·rw [List.getElem?_set_ne (fun e2=> ej e2.symm)] at hx
    exact h.apart i j u x q hij hu hx hq
theorem O7.made {w:World} {base ob n:Nat} (hb:Bk w ob (List.replicate n (.slice none 0 0))) (hlo:base≤ob):O7 w base ob (List.replicate n (.slice none 0 0)) (List.replicate n []):=by
 have hh:∀ (i:Nat) v,(List.replicate n (Value.slice none 0 0))[i]?=some v→v= .slice none 0 0:=fun i v hv=> by
  have:=List.mem_of_getElem? hv
  exact(List.mem_replicate.1 this).2
 refine⟨hb,by simp,hlo,fun i v l hv hl=> ?_,fun i v hv=> ?_,fun i j u v q _ hu _ hq=> ?_⟩
 ·rw [hh i v hv,(List.mem_replicate.1 (List.mem_of_getElem? hl)).2]
  exact Own.nil
 ·rw [hh i v hv];simp [Value.ownBlock]
 ·rw [hh i u hu] at hq;simp [Value.ownBlock] at hq
end Go.Proofs.YtbibeionenjmfaaGreatDoor
