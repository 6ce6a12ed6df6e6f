/- The mapper: Slices. -/
import Derived.Test.YtbibeionenjmfaaGreatDoorZMStep
import Derived.Test.YtbibeionenjmfaaGreatDoorZKeys
import Derived.Test.YtbibeionenjmfaaGreatDoorZSort7
set_option linter.unusedSimpArgs false
set_option linter.unusedVariables false
namespace Go.Proofs.YtbibeionenjmfaaGreatDoor
open Go.RowKit
theorem Aax:(Tryz.prog.info? 157).map (fun i=> (i.zero,i.size,i.bytes))=some (some (.slice none 0 0),1,24):=by kernel_rfl
def Aou (v:Value):List Value:= [v]
theorem Ag2 {w:World} {base g n:Nat} {t:TypeId} {l:List Value} (h:Own 1 Aou t w base (.slice (some ⟨g,0,none⟩) n n) l):Bk w g l:=by
 obtain rfl:=h.len
 have h1:=h.blk
 refine⟨h1.2,fun j x hj=> ?_,fun j=> h.frozenAt j⟩
 have:=Own.cellAt (enc:=Aou) (sz:=1) (fun _=> rfl) h hj (j:=0) (u:=x) rfl
 simpa using this
structure Rj (w2 wr:World) (base ob:Nat) (sa:Option Addr) (S:List Pr) (vs:List Value) (ls:List (List Pr)):Prop where
 rws:O7 wr base ob vs ls
 far:∀ (i:Nat) v q,vs[i]?=some v→v.ownBlock=some q→w2.heap.size≤q
 sl:Sl 2 Bt wr sa S
 sb:∀ b o,sa=some ⟨b,o,none⟩→b≠ob∧b < w2.heap.size
 size:w2.heap.size≤wr.heap.size
theorem Rj.later {w2 w w':World} {base ob:Nat} {sa:Option Addr} {S:List Pr} {vs:List Value} {ls:List (List Pr)} (h:Rj w2 w base ob sa S vs ls) (hb:Below w.heap.size w w'):Rj w2 w' base ob sa S vs ls:=
 ⟨h.rws.later hb,h.far,h.sl.later hb (Nat.le_refl _),h.sb,Nat.le_trans h.size hb.size⟩
theorem Rj.put {w2 W A w1:World} {base ob k:Nat} {sa:Option Addr} {S:List Pr} {vs:List Value} {ls:List (List Pr)} {v v':Value} {l':List Pr} (h:Rj w2 W base ob sa S vs ls) (hv:vs[k]?=some v) (hA:Below W.heap.size W A)
 (ho:Own 2 Bt 202 w1 base v' l') (hg:A.grownBy w1 v.ownBlock) (hat:∀ q,v'.ownBlock=some q→v.ownBlock=some q∨W.heap.size≤q):
 Rj w2 (w1.setCell ⟨ob,k,none⟩ v') base ob sa S (vs.set k v') (ls.set k l')∧w1.frozen? ⟨ob,k,none⟩=false∧w1.cell? ⟨ob,k,none⟩=some v:=by
 obtain⟨h1,h2,h3⟩:=h.rws.put (l:= []) hv hA hA.size ho hg hat
 have hkl:k < vs.length:=(List.getElem?_eq_some_iff.1 hv).1
 have hkg:Ab (fun q=> v.ownBlock=some q) A w1:=Ab.A9 hg fun k e=> e
 have hsz:=hkg.size
 have hsA:=hA.size
 have hs2:=h.size
 refine⟨⟨h1,fun i u q hu hq=> ?_,?_,h.sb,?_⟩,h2,h3⟩
 ·by_cases e:i=k
  ·subst e
   rw [List.getElem?_set_self hkl] at hu
   cases hu
   rcases hat q hq with e2 | hm
   ·exact h.far i v q hv e2
   ·omega
  ·rw [List.getElem?_set_ne (fun e2=> e e2.symm)] at hu
   exact h.far i u q hu hq
 ·have h4:Sl 2 Bt w1 sa S:=(h.sl.later hA (Nat.le_refl _)).kept hkg fun b o e hq=> by
   have h5:=h.far k v b hv hq
   have h6:=(h.sb b o e).2
   omega
  exact h4.kept ((Ab.refl (fun q=> q=ob) w1).setCell (p:=⟨ob,k,none⟩) rfl v') fun b o e=> (h.sb b o e).1
 ·have:(w1.setCell ⟨ob,k,none⟩ v').heap.size=w1.heap.size:=by simp [World.setCell]
  omega
set_option maxRecDepth 100000 in
set_option maxHeartbeats 4000000 in
theorem Zv {base g:Nat} {ro:Option Addr} {rc:Nat} {rs:List Ao} {fold:Int} {many:Nat} {early:Bool} {lines:List ByteArray} {n:Nat} {la:Option Addr} {lc:Nat} {va:Value} (w:World) (h:D4 w base g ro rc rs fold many early lines n la lc va) (hm:1≤many∧many≤1000) (hln:(Bf (rs.map Ao.v) fold (lines.take n)).length≤100000000) (hks:∀ p∈Bf (rs.map Ao.v) fold (lines.take n),p.1.size≤maxLen):
 Calls Tryz.prog 85 #[.pointer (some ⟨g,0,none⟩)] w fun e w'=> ∃ ob vs,e= .returned (.slice (some ⟨ob,0,none⟩) many many)∧O7 w' w.heap.size ob vs (Ko fold early many (Bf (rs.map Ao.v) fold (lines.take n)))∧Below w.heap.size w w':=by
 obtain⟨i0,hi0,hz0,hz1,hz2⟩:=info_parts Ks
 obtain⟨i1,hi1,hy0,hy1,hy2⟩:=info_parts Aax
 have HR0:=Aa h
 obtain⟨va1,vc1,hva⟩:=id h.own.1
 subst hva
 have HOS:=Aa (h.own.sl Bn)
 generalize Bf (rs.map Ao.v) fold (lines.take n)=L at *
 have HKS:=Aa hks
 have c3:=h.bk.get (j:=3) rfl
 have c6:=h.bk.get (j:=6) rfl
 have HSG:=Aa h.bk
 clear h hks HR0
 go_enter Tryz.func85,Tryz.ntmps85
 go_wp2_with (refine Ld (enc:=Aou) (fun _=> rfl) _ _ 131 i1 _ (.slice none 0 0) many rfl rfl Tryz.underlying131 hi1 hy0 hy1 rfl rfl (by rw [hy2];decide) rfl rfl (by omega) (Below.refl w.heap.size w) (Nat.le_refl _) ?_)
 intro w1 ho hbl hb1
 have HBK:=Aa (Ag2 ho)
 have HB1:=Aa hbl
 have HG1:=Aa (HSG.out.later hbl)
 have HOS1:=Aa (HOS.out.later hbl (Nat.le_refl _))
 have HZ1:Hid (w.heap.size < w1.heap.size):=hb1
 clear ho hbl hb1 HOS c3 c6
 have c6:=HG1.out.get (j:=6) rfl
 have HSO:=Aa (Aje va1 vc1 L w1 (by omega) HOS1.out)
 go_wp2_with fail
 refine HSO.out.mono ?_
 rintro e w2 ⟨sv,rfl,os,b2⟩
 obtain⟨sa,sc,rfl⟩:=id os.1
 have HS2:=Aa (os.sl Bn)
 have HSB:Hid (∀ b o,sa=some ⟨b,o,none⟩→b≠w.heap.size∧b < w2.heap.size):=fun b o e=> by
  subst e
  have h1:=os.lt b rfl
  have h2:=HZ1.out
  exact⟨by omega,h1.2⟩
 have HB2:=Aa (HB1.out.trans (b2.mono HB1.out.size))
 have HG2:=Aa (HG1.out.later b2)
 have HRW:Hid (O7 w2 w.heap.size w.heap.size (List.replicate many (.slice none 0 0)) (List.replicate many [])):=O7.made (HBK.out.later b2) (Nat.le_refl _)
 have hsl:(Dz L).length≤100000000:=by rw [Fg];exact hln
 have HKK:Hid (∀ p∈Dz L,p.1.size≤maxLen):=fun p hp=> HKS.out p ((M1 L).subset hp)
 have hCU1:=Ac8 (fold:=fold) (many:=many) L
 have hCU2:=Ag9 (fold:=fold) (many:=many) L
 have HC1:=Aa hCU1
 have HC2:=Aa hCU2
 clear os b2 HSO HBK HB1 HG1 HOS1 HKS c6 hCU1 hCU2
 generalize Dz L=S at *
 have HD0:Hid (Rj w2 w2 w.heap.size w.heap.size sa S (List.replicate many (.slice none 0 0)) (Il many [])):=by
  rw [Ahb]
  exact⟨HRW.out,fun i v q hv hq=> by rw [(List.mem_replicate.1 (List.mem_of_getElem? hv)).2] at hq;simp [Value.ownBlock] at hq,HS2.out,HSB.out,Nat.le_refl _⟩
 have HZ2:Hid (w.heap.size < w2.heap.size):=by have h1:=HRW.out.bk.lt;exact h1
 clear HRW HS2 HSB
 go_wp2
 go_loopw [20] (fun iv wr=> ∃ (k:Nat) (vs:List Value),k≤S.length∧iv= .int .i64 k∧Hid (Rj w2 wr w.heap.size w.heap.size sa S vs (Il many (S.take k)))∧Hid (Below w.heap.size w wr)) (fun iv _=> S.length - (intOf iv).toNat)
 case atStart=> exact⟨0,_,by omega,rfl,HD0,HB2⟩
 case round=>
  clear HD0 HB2 HG2
  obtain⟨k,vs,hk,rfl,HD,HB⟩:=hrel
  have HG:=Aa (HSG.out.later HB.out)
  by_cases hlt:k < S.length
  ·obtain⟨b,off,x,y,rfl,hbw,hlk,d0,d1⟩:=HD.out.sl.pair hlt
   have hx:=HKK.out _ (List.mem_of_getElem? hlk)
   have HTK:Hid (S.take (k+1)=S.take k++ [(x,y)]):=by
    obtain⟨hl1,hx1⟩:=List.getElem?_eq_some_iff.1 hlk
    show _=_
    rw [List.take_succ_eq_append_getElem hl1,hx1]
   have f1:(0:Int)≤(k:Int)∧(k:Int) < (S.length:Int):=by omega
   obtain⟨f1,f2⟩:=f1
   clear hlk
   dsimp only at hx
   go_upto_region 5 with (fail)
   have hba:Below wr.heap.size wr (wr.alloc (.cells #[.string x, .int .i64 y] 202)):=(Below.refl _ _).alloc (Nat.le_refl _) _
   have HXB:Hid (Bk (wr.alloc (.cells #[.string x, .int .i64 y] 202)) wr.heap.size [.string x, .int .i64 y]):=Bk.new rfl
   have HD5:=Aa (HD.out.later hba)
   have HG5:=Aa (HG.out.later hba)
   have HB5:=Aa (HB.out.trans (hba.mono HB.out.size))
   clear HD HG HB hba d0 d1
   generalize wr.alloc (.cells #[.string x, .int .i64 y] 202)=W5 at *
   obtain⟨xb,hxb⟩:∃ xb,xb=wr.heap.size:=⟨_,rfl⟩
   rw [←hxb] at HXB ⊢
   clear hxb
   obtain⟨kk,hkk⟩:∃ kk:Nat,sliceB x many=(kk:Int):=⟨(sliceB x many).toNat,by have:=(Q6 x many).1;omega⟩
   have hkm:kk < many:=by have:=(Q6 x many).2;omega
   have HCS:Hid (Il many (S.take k++ [(x,y)])=(Il many (S.take k)).set kk ((S.take k).filter (Bh many kk)++ [(x,y)])):=by
    have h:=Ada hm.1 (S.take k) (x,y)
    dsimp only at h
    rw [hkk,Int.toNat_natCast] at h
    exact h
   have HSI:=Aa fun w'=> Agv x (many:Int) w' hx (by omega)
   rw [hkk] at HSI
   clear hkk
   have q0:=cell_regrown (HXB.out.get (j:=0) rfl)
   have q3:=cell_regrown (HG5.out.get (j:=3) rfl)
   refine wp_region_quiet_below (by kernel_rfl) (by kernel_rfl) ?_
   repeat (go_big_quiet_step (first | (go_at_call 121;exact Is (HSI.out _))))
   refine wpQuiet_nil ?_
   intro _ hw'
   obtain⟨⟨dq,osq⟩,hw''⟩:=hw'
   subst hw''
   have hbg:=below_regrown W5 dq osq
   have HD6:=Aa (HD5.out.later hbg)
   have HB6:=Aa (HB5.out.trans (hbg.mono HB5.out.size))
   have HX6:=Aa (HXB.out.later hbg)
   clear HD5 HB5 HXB HG5 q0 q3 hbg HSI
   generalize Go.Sort.grow (redrawn W5 dq) osq=W at *
   go_upto_region 6 with (fail)
   obtain⟨v,l,hv,hl,how,cv⟩:=HD6.out.rws.row (k:=kk) (by rw [Ng];exact hkm)
   rw [Qk hkm] at hl
   obtain rfl:=Option.some.inj hl
   clear hl
   have hfl:((S.take k).filter (Bh many kk)).length≤100000000:=by
    have h1:=List.length_filter_le (Bh many kk) (S.take k)
    rw [List.length_take] at h1
    omega
   generalize (S.take k).filter (Bh many kk)=F at *
   obtain⟨fa,fc,rfl⟩:=id how.1
   have HOW:=Aa how
   have x0:=HX6.out.get (j:=0) rfl
   have x1:=HX6.out.get (j:=1) rfl
   have f3:(0:Int)≤(kk:Int)∧(kk:Int) < (many:Int):=by omega
   obtain⟨f3,f4⟩:=f3
   have HFL:Hid (F.length+1≤1000000000):=by show _≤_;omega
   have HVK:=Aa hv
   have HNW:Hid (∀ (j:Nat) (u:Value),(Bt (x,y))[j]?=some u→(W.drew.alloc (.cells #[.string x, .int .i64 y] 202)).cell? ((⟨W.heap.size,0,none⟩:Addr).add j)=some u):=Fc (w:=W.drew) rfl rfl
   clear how hfl hv
   refine wp_region_noPanic ?_
   refine Al (S:=(fun w'=> Below W.heap.size W w')) (E:= [8,9,10]) (by kernel_rfl) ?_ (fun hHeld=> ?_)
   ·(first | exact(Below.refl _ _).drew | exact hHeld.alloc hHeld.size _)
   try dsimp only [List.size_toArray,List.length_cons,List.length_nil,Nat.reduceAdd]
   refine hP 0 (v:=?_) rfl (by kernel_rfl) (by rfl) ?_ ?_
   rotate_left
   focus (intro w;go_simp;try with_reducible rfl)
   refine hP 1 (v:=?_) rfl (by kernel_rfl) (by rfl) ?_ ?_
   rotate_left
   focus (intro w;go_simp;try with_reducible rfl)
   refine hP 2 (v:=?_) rfl (by kernel_rfl) (by rfl) ?_ ?_
   rotate_left
   focus (intro w;go_simp;try with_reducible rfl)
   refine hP 3 (v:=?_) rfl (by kernel_rfl) (by rfl) ?_ ?_
   rotate_left
   focus (intro w;go_simp;try with_reducible rfl)
   refine hP 4 (v:=?_) rfl (by kernel_rfl) (by rfl) ?_ ?_
   rotate_left
   focus (intro w;go_simp;try with_reducible rfl)
   refine hT 5 [[5], [5], [5]] (v:=?_) rfl (by kernel_rfl) (by rfl) (by assumption) ?_ ?_
   rotate_left
   focus (intro w hSw;(try dsimp only at hSw);(have q0:=cell_later hSw x0;have q1:=cell_later hSw x1;have q2:=cell_later hSw cv);go_simp;try with_reducible rfl)
   refine hT 6 [[7,6], [6], [6]] (v:=?_) rfl (by kernel_rfl) (by rfl) (by assumption) ?_ ?_
   rotate_left
   focus (intro w hSw;(try dsimp only at hSw);(have q0:=cell_later hSw x0;have q1:=cell_later hSw x1;have q2:=cell_later hSw cv);go_simp;try with_reducible rfl)
   try simp only [Act.put,List.setIfInBounds_toArray,List.set_cons_zero,List.set_cons_succ]
   refine hR [7] (by kernel_rfl) (by simp) (Ac.cons rfl (fun KH hKH=> ?_) .nil)
   go_simp
   refine hKH.out _ _ ?_ (fun hNew=> ?_)
   ·(first | exact(Below.refl _ _).drew | exact hHeld.alloc hHeld.size _)
   clear hKH KH hHeld
   have hHeld:=hNew
   clear hNew
   try simp only [Act.put,List.setIfInBounds_toArray,List.set_cons_zero,List.set_cons_succ]
   refine hR [8] (by kernel_rfl) (by simp) (Ac.Bb rfl (by kernel_rfl) (fun KH hKH=> ?_) .nil)
   refine Cs (enc:=Bt) Bn _ _ 157 i0 _ rfl rfl Tryz.underlying157 hi0 hz0 hz1 hz2 rfl (by decide) (by decide) (HOW.out.later hHeld) (Below.refl _ _) (Nat.le_trans HB6.out.size hHeld.size) HFL.out rfl (x,y) ⟨W.heap.size,0,none⟩ 1 rfl HNW.out (Kx _) ?_
   intro v' w1 ho hb1 hgr hat
   have hat2:∀ q,v'.ownBlock=some q→(Value.slice fa F.length fc).ownBlock=some q∨W.heap.size≤q:=fun q e=> hat.imp (fun h=> h.symm.trans e) fun h=> by rw [h] at e;have h1:=Option.some.inj e;have h2:=hHeld.size;omega
   have hput:=HD6.out.put HVK.out hHeld ho hgr hat2
   have HBX:=Aa (HB6.out.trans ((hHeld.mono HB6.out.size).trans hb1))
   obtain⟨na,nc,hv'⟩:=id ho.1
   subst hv'
   have s6:=hput.2.2
   have y6:=hput.2.1
   have HPUT:=Aa hput.1
   clear ho hb1 hgr hat hat2 hput x0 x1 cv
   refine hKH.out _ _ ?_
   clear hKH KH
   try clear hHeld
   try simp only [Act.put,List.setIfInBounds_toArray,List.set_cons_zero,List.set_cons_succ]
   refine hR [9] (by kernel_rfl) (by simp) (Ac.Bb rfl (by kernel_rfl) (fun KH hKH=> ?_) .nil)
   go_simp
   refine hKH.out _ _ ?_
   clear hKH KH
   try clear hHeld
   try simp only [Act.put,List.setIfInBounds_toArray,List.set_cons_zero,List.set_cons_succ]
   refine hR [10] (by kernel_rfl) (by simp) (Ac.Bb rfl (by kernel_rfl) (fun KH hKH=> ?_) .nil)
   go_simp
   refine hKH.out _ _ ?_
   clear hKH KH
   try clear hHeld
   refine Ak (by kernel_rfl) ?_ _
   refine NoPanic.normal ?_
   go_wp2
   go_roundw
   case rel=> exact⟨k+1,_,by omega,by go_num,by rw [HTK.out,HCS.out];have h:=HPUT.out;simp only [List.length_append] at h;exact h,by have h:=HBX.out.setCell (p:=⟨w.heap.size,kk,none⟩) (Nat.le_refl _) (.slice na (F++ [(x,y)]).length nc);simp only [List.length_append] at h;exact h⟩
   case measure=> (simp [intOf];try omega)
  ·obtain rfl:k=S.length:=by omega
   rw [List.take_length] at HD
   have c2:=HG.out.get (j:=2) rfl
   have g3:decide (S.length < S.length)=false:=by simp
   have g4:decide ((S.length:Int) < (S.length:Int))=false:=by simp
   cases early with
   | false=>
     go_wp2
     go_ret
     exact⟨_,vs,rfl,by rw [HC1.out];exact HD.out.rws,HB.out⟩
   | true=>
     have c1:=HG.out.get (j:=1) rfl
     have HRW:Hid (O7 wr w.heap.size w.heap.size vs (Ih fold many S 0)):=by rw [Aan];exact HD.out.rws
     clear HD
     go_wp2
     go_loopw [50] (fun iv wq=> ∃ (j:Nat) (vs:List Value),j≤many∧iv= .int .i64 j∧Hid (O7 wq w.heap.size w.heap.size vs (Ih fold many S j))∧Hid (Below w.heap.size w wq)) (fun iv _=> many - (intOf iv).toNat)
     case atStart=> exact⟨0,vs,by omega,rfl,HRW,HB⟩
     case round=>
      clear HRW HB HG c1 c2
      rename_i wr0
      obtain⟨j,vs,hj,rfl,HRW,HB⟩:=hrel
      have HG:=Aa (HSG.out.later HB.out)
      by_cases hjm:j < many
      ·obtain⟨v,l,hv,hl,how,cv⟩:=HRW.out.row (k:=j) (by rw [Lm];exact hjm)
       rw [Oh hjm,if_neg (by omega)] at hl
       obtain rfl:=Option.some.inj hl
       have HFS:=Aa (Aam (kind:=fold) (S:=S) hjm)
       have hfl:(S.filter (Bh many j)).length≤100000000:=by
        have h1:=List.length_filter_le (Bh many j) S
        omega
       clear hl
       generalize S.filter (Bh many j)=F at *
       obtain⟨fa,fc,rfl⟩:=id how.1
       have HSL:=Aa (how.sl Bn)
       have c1:=HG.out.get (j:=1) rfl
       have f3:(0:Int)≤(j:Int)∧(j:Int) < (many:Int):=by omega
       obtain⟨f3,f4⟩:=f3
       have HVK:=Aa hv
       have HGR:=Aa fun(w':World) (hb:Below wr.heap.size wr w')=> Acv fold fa fc F w' (by omega) (HSL.out.later hb (Nat.le_refl _))
       clear how hfl hv
       go_upto_region 12 with (fail)
       refine wp_region_noPanic ?_
       refine Al (S:=(fun w'=> Below wr.heap.size wr w')) (E:= [12,13]) (by kernel_rfl) ?_ (fun hHeld=> ?_)
       ·(first | exact(Below.refl _ _).drew | exact hHeld.trans (b1.mono hHeld.size))
       try dsimp only [List.size_toArray,List.length_cons,List.length_nil,Nat.reduceAdd]
       refine hP 0 (v:=?_) rfl (by kernel_rfl) (by rfl) ?_ ?_
       rotate_left
       focus (intro w;go_simp;try with_reducible rfl)
       refine hP 1 (v:=?_) rfl (by kernel_rfl) (by rfl) ?_ ?_
       rotate_left
       focus (intro w;go_simp;try with_reducible rfl)
       refine hP 2 (v:=?_) rfl (by kernel_rfl) (by rfl) ?_ ?_
       rotate_left
       focus (intro w;go_simp;try with_reducible rfl)
       refine hP 3 (v:=?_) rfl (by kernel_rfl) (by rfl) ?_ ?_
       rotate_left
       focus (intro w;go_simp;try with_reducible rfl)
       refine hP 4 (v:=?_) rfl (by kernel_rfl) (by rfl) ?_ ?_
       rotate_left
       focus (intro w;go_simp;try with_reducible rfl)
       refine hP 5 (v:=?_) rfl (by kernel_rfl) (by rfl) ?_ ?_
       rotate_left
       focus (intro w;go_simp;try with_reducible rfl)
       refine hT 6 [[6], [6]] (v:=?_) rfl (by kernel_rfl) (by rfl) (by assumption) ?_ ?_
       rotate_left
       focus (intro w hSw;(try dsimp only at hSw);(have q0:=cell_later hSw c1;have q2:=cell_later hSw cv);go_simp;try with_reducible rfl)
       refine hP 7 (v:=?_) rfl (by kernel_rfl) (by rfl) ?_ ?_
       rotate_left
       focus (intro w;go_simp;try with_reducible rfl)
       refine hP 8 (v:=?_) rfl (by kernel_rfl) (by rfl) ?_ ?_
       rotate_left
       focus (intro w;go_simp;try with_reducible rfl)
       refine hP 9 (v:=?_) rfl (by kernel_rfl) (by rfl) ?_ ?_
       rotate_left
       focus (intro w;go_simp;try with_reducible rfl)
       refine hT 10 [[10], [10]] (v:=?_) rfl (by kernel_rfl) (by rfl) (by assumption) ?_ ?_
       rotate_left
       focus (intro w hSw;(try dsimp only at hSw);(have q0:=cell_later hSw c1;have q2:=cell_later hSw cv);go_simp;try with_reducible rfl)
       try simp only [Act.put,List.setIfInBounds_toArray,List.set_cons_zero,List.set_cons_succ]
       refine hR [11] (by kernel_rfl) (by simp) (Ac.cons rfl (fun KH hKH=> ?_) .nil)
       go_simp
       (go_at_call 122;refine(HGR.out _ hHeld).mono ?_;rintro e w1 ⟨v1,rfl,o1,b1⟩;obtain⟨pa,pc,rfl⟩:=id o1.1)
       try go_wp2_with fail
       refine hKH.out _ _ ?_ (fun hNew=> ?_)
       ·(first | exact(Below.refl _ _).drew | exact hHeld.trans (b1.mono hHeld.size))
       clear hKH KH hHeld
       have hHeld:=hNew
       clear hNew
       try simp only [Act.put,List.setIfInBounds_toArray,List.set_cons_zero,List.set_cons_succ]
       refine hR [12] (by kernel_rfl) (by simp) (Ac.Bb rfl (by kernel_rfl) (fun KH hKH=> ?_) .nil)
       have hput:=HRW.out.put (A:=w1) (w1:=w1) (l:=F) HVK.out hHeld hHeld.size (o1.B6 HB.out.size) ⟨rfl,rfl,rfl,Nat.le_refl _,fun _ _ _=> rfl⟩ (fun q e=> .inr (o1.lt q e).1)
       have s6:=hput.2.2
       have y6:=hput.2.1
       have HPUT:=Aa hput.1
       have HBX:=Aa ((HB.out.trans (hHeld.mono HB.out.size)).setCell (p:=⟨w.heap.size,j,none⟩) (Nat.le_refl _) (.slice pa (Ae fold F).length pc))
       clear hput o1 b1 c1 cv
       go_simp
       refine hKH.out _ _ ?_
       clear hKH KH
       try clear hHeld
       try simp only [Act.put,List.setIfInBounds_toArray,List.set_cons_zero,List.set_cons_succ]
       refine hR [13] (by kernel_rfl) (by simp) (Ac.Bb rfl (by kernel_rfl) (fun KH hKH=> ?_) .nil)
       go_simp
       refine hKH.out _ _ ?_
       clear hKH KH
       try clear hHeld
       refine Ak (by kernel_rfl) ?_ _
       refine NoPanic.normal ?_
       go_wp2
       go_roundw
       case rel=> exact⟨j+1,_,by omega,by go_num,by rw [HFS.out];exact HPUT,HBX⟩
       case measure=> (simp [intOf];try omega)
      ·obtain rfl:j=many:=by omega
       have g5:decide (j < j)=false:=by simp
       have g6:decide ((j:Int) < (j:Int))=false:=by simp
       go_wp2
       go_ret
       exact⟨_,vs,rfl,by rw [HC2.out];exact HRW.out,HB.out⟩
end Go.Proofs.YtbibeionenjmfaaGreatDoor
