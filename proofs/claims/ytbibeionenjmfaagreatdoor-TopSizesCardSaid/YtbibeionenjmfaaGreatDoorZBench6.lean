/- Package bench: New. -/
import Derived.Deep.RegionLaw
import Derived.Test.YtbibeionenjmfaaGreatDoorZFlCount
import Derived.Test.YtbibeionenjmfaaGreatDoorZOpen
set_option linter.unusedSimpArgs false
set_option linter.unusedVariables false
namespace Go.Proofs.YtbibeionenjmfaaGreatDoor
open Go.RowKit
theorem Aj9:(Tryz.prog.info? 153).map (fun i=> (i.zero,i.size,i.bytes))=some (some (.agg #[.bool false, .int .i64 0, .bool false, .int .i64 0]),4,32):=by kernel_rfl
theorem Amp:(Tryz.prog.info? 151).map (fun i=> (i.zero,i.size,i.bytes))=some (some (.slice none 0 0),1,24):=by kernel_rfl
def Om:A0:=(false,0,false,0)
theorem Yf (a b:Int) (w:World) (h:¬ (1≤a∧a≤4∧1≤b∧b≤3)):
 Calls Tryz.prog 50 #[.int .i64 a, .int .i64 b] w fun e w'=> e= .returned (.tuple #[.pointer none,Du 1])∧w=w':=by
 rw [Ar (by decide)]
 go_enter Tryz.func50,Tryz.ntmps50
 go_wp2
 all_goals first
 | (exfalso;omega)
 | (go_ret2;exact⟨rfl,rfl⟩)
structure BN (w:World) (B k n:Nat) (v:Value) (rs:List Nat):Prop where
 c0:w.cell? ⟨B,0,none⟩=some v
 z0:w.frozen? ⟨B,0,none⟩=false
 ol:Own 1 (Aad n) 151 w (B+1) v rs
 lt:rs.length=k
 ow:∀ (i:Nat) r,rs[i]?=some r→Own 4 Ny 153 w (B+1) (.slice (some ⟨r,0,none⟩) n n) (List.replicate n Om)
 d2:∀ (i:Nat) r,rs[i]?=some r→v.ownBlock≠some r
 d3:∀ (i j:Nat) r,rs[i]?=some r→rs[j]?=some r→i=j
 bl:B < w.heap.size
set_option maxHeartbeats 2000000 in
set_option maxRecDepth 100000 in
theorem Zx (a b:Nat) (w:World) (ha:1≤a) (ha4:a≤4) (hb:1≤b) (hb3:b≤3):
 Calls Tryz.prog 50 #[.int .i64 a, .int .i64 b] w fun e w'=> ∃ bb lb cap rs,e= .returned (.tuple #[.pointer (some ⟨bb,0,none⟩), .nilIface])∧Below w.heap.size w w'∧rs.length=a∧BT w' w.heap.size bb lb cap b rs (List.replicate a (List.replicate b Om)):=by
 obtain⟨i0,hi,hz0,hz1,hz2⟩:=info_parts Aj9
 obtain⟨i1,ki,kz0,kz1,kz2⟩:=info_parts Amp
 have hmp:∀ w:World,(Instr.makeSlice 151 (.int .i64 b) (.int .i64 b)).run Tryz.prog w= .ok (.slice (some ⟨w.heap.size,0,none⟩) b b) (w.alloc (.cells (madeCells #[.bool false, .int .i64 0, .bool false, .int .i64 0] (b * 4)) 153)):=by
  intro w
  have:=run_makeSlice (P:=Tryz.prog) w 151 153 i0 (.agg #[.bool false, .int .i64 0, .bool false, .int .i64 0]) Tryz.underlying151 hi hz0 .i64 .i64 b b (by omega) (by omega) (by rw [hz1];omega) (by rw [hz2];omega) (by omega)
  rw [hz1] at this;simpa [Value.cells] using this
 have hmade:∀ wr:World,w.heap.size < wr.heap.size→Own 4 Ny 153 (wr.alloc (.cells (madeCells #[.bool false, .int .i64 0, .bool false, .int .i64 0] (b * 4)) 153)) (w.heap.size+1) (.slice (some ⟨wr.heap.size,0,none⟩) b b) (List.replicate b Om):=by
  intro wr hlt
  have:=Own.lit (base:=w.heap.size+1) (l:=List.replicate b Om) (enc:=Ny) (sz:=4) (e:=153) Eg (B3 wr (.cells (madeCells #[.bool false, .int .i64 0, .bool false, .int .i64 0] (b * 4)) 153)) (by omega) (by have:=El Eg (.agg #[.bool false, .int .i64 0, .bool false, .int .i64 0]) Om rfl b rfl;simpa [Value.cells] using this) (by simp;unfold maxLen;omega)
  simpa using this
 have HMD:=Aa hmade
 clear hi hz0 hz1 hz2 hmade
 have e1:decide ((a:Int) < 1)=false:=by simp;omega
 have e2:decide (4 < (a:Int))=false:=by simp;omega
 have e3:decide ((b:Int) < 1)=false:=by simp;omega
 have e4:decide (3 < (b:Int))=false:=by simp;omega
 go_enter Tryz.func50,Tryz.ntmps50
 go_wp2
 go_loopw [25] (fun i wr=> ∃ k:Nat,k≤a∧i= .int .i64 k∧Below w.heap.size w wr∧∃ v rs,BN wr w.heap.size k b v rs) (fun i _=> a - (intOf i).toNat)
 case atStart=>
  refine⟨0,by omega,rfl,ba w _, .slice none 0 0, [],?_⟩
  have K:=Bk.new (w:=w) (cs:= #[.slice none 0 0]) (t:=149) rfl
  exact⟨K.get (j:=0) rfl,K.fz 0,Own.nil,rfl,fun i r h=> by simp at h,fun i r h=> by simp at h,fun i j r h=> by simp at h,K.lt⟩
 case round=>
  obtain⟨k,hk,rfl,hnx,v,rs,hbn⟩:=hrel
  by_cases hlt:k < a
  ·have c0:=hbn.c0
   have z0:=hbn.z0
   have HBN:=Aa hbn
   clear hbn
   go_wp2
   have hsz:=hnx.size
   have hbl:=HBN.out.bl
   have how:=((HBN.out.ol.alloc (.cells (madeCells #[.bool false, .int .i64 0, .bool false, .int .i64 0] (b * 4)) 153)).alloc (.cells #[.slice (some ⟨wr.heap.size,0,none⟩) b b] 151)).drew
   have hbel:Below (w.heap.size+1) wr (((wr.alloc (.cells (madeCells #[.bool false, .int .i64 0, .bool false, .int .i64 0] (b * 4)) 153)).alloc (.cells #[.slice (some ⟨wr.heap.size,0,none⟩) b b] 151)).drew):=(((Below.refl _ _).alloc (by omega) _).alloc (by simp;omega) _).drew
   have HL:=Aa HBN.out.lt
   have hnews:∀ (j:Nat) (u:Value),(Aad b wr.heap.size)[j]?=some u→(((wr.alloc (.cells (madeCells #[.bool false, .int .i64 0, .bool false, .int .i64 0] (b * 4)) 153)).alloc (.cells #[.slice (some ⟨wr.heap.size,0,none⟩) b b] 151)).drew).cell? ((⟨wr.heap.size+1,0,none⟩:Addr).add j)=some u:=by
    intro j u hj
    have K:=(Bk.new (w:=wr.alloc (.cells (madeCells #[.bool false, .int .i64 0, .bool false, .int .i64 0] (b * 4)) 153)) (cs:= #[.slice (some ⟨wr.heap.size,0,none⟩) b b]) (t:=151) rfl).get (j:=j) hj
    rw [Acy _ _ _ _ rfl,Nat.zero_add]
    simpa using K
   have hone:∀ u∈Aad b wr.heap.size,u.oneCell'=true:=by intro u hu;simp [Aad] at hu;subst hu;rfl
   have hfin:∀ v' w1,Own 1 (Aad b) 151 w1 (w.heap.size+1) v' (rs++ [wr.heap.size])→Below (w.heap.size+1) wr w1→World.grownBy (((wr.alloc (.cells (madeCells #[.bool false, .int .i64 0, .bool false, .int .i64 0] (b * 4)) 153)).alloc (.cells #[.slice (some ⟨wr.heap.size,0,none⟩) b b] 151)).drew) w1 v.ownBlock→(v'.ownBlock=v.ownBlock∨v'.ownBlock=some (World.heap (((wr.alloc (.cells (madeCells #[.bool false, .int .i64 0, .bool false, .int .i64 0] (b * 4)) 153)).alloc (.cells #[.slice (some ⟨wr.heap.size,0,none⟩) b b] 151)).drew)).size)→
    ∃ ao' cap',v'= .slice ao' (rs.length+1) cap'∧w1.cell? ⟨w.heap.size,0,none⟩=some v∧w1.frozen? ⟨w.heap.size,0,none⟩=false∧BN (w1.setCell ⟨w.heap.size,0,none⟩ v') w.heap.size (k+1) b v' (rs++ [wr.heap.size])∧Below w.heap.size w (w1.setCell ⟨w.heap.size,0,none⟩ v'):=by
    intro v' w1 hown1 hb1 hgr hat
    have KB:=Ab.A9 (S:=fun q=> v.ownBlock=some q) hgr (fun q e=> e)
    have hvl:=fun q e=> HBN.out.ol.lt q e
    have c1:w1.cell? ⟨w.heap.size,0,none⟩=some v:=by
     refine KB.cell ?_ (fun e=> by have:w.heap.size+1≤w.heap.size:=(hvl _ e).1;omega)
     exact cell_later (((ba wr _).alloc (by simp) _).drew) c0
    have z1:w1.frozen? ⟨w.heap.size,0,none⟩=false:=by
     rw [World.frozen?_of_block (hb1.block w.heap.size (by omega))];exact z0
    have hnw:Below w.heap.size w w1:=hnx.trans (hb1.mono (by omega))
    have hv':∀ q,v'.ownBlock=some q→v.ownBlock=some q∨q=wr.heap.size+1+1:=by
     intro q e
     rcases hat with h | h
     ·left;rw [←h];exact e
     ·right;rw [h] at e;simp at e;omega
    have hbn':BN (w1.setCell ⟨w.heap.size,0,none⟩ v') w.heap.size (k+1) b v' (rs++ [wr.heap.size]):=by
     have hr0:∀ (i:Nat) r,(rs++ [wr.heap.size])[i]?=some r→(i < k∧rs[i]?=some r∧r < wr.heap.size)∨(i=k∧r=wr.heap.size):=by
      intro i r hi
      rw [List.getElem?_append] at hi
      split at hi
      ·rename_i h
       exact .inl ⟨by rw [←HL.out];exact h,hi,((HBN.out.ow i r hi).lt r rfl).2⟩
      ·rename_i h
       right
       have hlen:=HL.out
       by_cases e:i - rs.length=0
       ·rw [e] at hi;simp at hi;exact⟨by omega,hi.symm⟩
       ·rw [List.getElem?_eq_none (by simp;omega)] at hi;cases hi
     refine⟨Z6 c1,by rw [World.frozen?_setCell];exact z1,hown1.setOther (fun e=> ?_) _,by simp [HL.out],fun i r hi=> ?_,fun i r hi=> ?_,fun i j r hi hj=> ?_,?_⟩
     ·have:w.heap.size+1≤w.heap.size:=(hown1.lt _ e).1;omega
     ·rcases hr0 i r hi with ⟨_,h,hl⟩ | ⟨rfl,rfl⟩
      ·exact(KB.own (((HBN.out.ow i r h).alloc _).alloc _).drew (fun q e=> by cases e;exact HBN.out.d2 i r h)).setOther (fun e=> by have e':r=w.heap.size:=Option.some.inj e;have:=((HBN.out.ow i r h).lt r rfl).1;omega) _
      ·exact(KB.own ((HMD.out wr hbl).alloc _).drew (fun q e=> by have e':wr.heap.size=q:=Option.some.inj e;intro e2;have:=(hvl _ e2).2;omega)).setOther (fun e=> by have e':wr.heap.size=w.heap.size:=Option.some.inj e;omega) _
     ·intro e
      rcases hr0 i r hi with ⟨_,h,hl⟩ | ⟨rfl,rfl⟩
      ·rcases hv' r e with h2 | h2
       ·exact HBN.out.d2 i r h h2
       ·omega
      ·rcases hv' _ e with h2 | h2
       ·have:=(hvl _ h2).2;omega
       ·omega
     ·rcases hr0 i r hi with ⟨_,h,hl⟩ | ⟨e1,e2⟩
      ·rcases hr0 j r hj with ⟨_,h',hl'⟩ | ⟨e3,e4⟩
       ·exact HBN.out.d3 i j r h h'
       ·omega
      ·rcases hr0 j r hj with ⟨_,h',hl'⟩ | ⟨e3,e4⟩
       ·omega
       ·omega
     ·have:=hb1.size;simp;omega
    obtain⟨ao',cap',hv2⟩:=hown1.1
    exact⟨ao',cap',by rw [hv2];simp,c1,z1,hbn',hnw.setCell (p:=⟨w.heap.size,0,none⟩) (Nat.le_refl _) v'⟩
   have HFIN:=Aa hfin
   have HNW:=Aa hnews
   have HONE:=Aa hone
   have HOW:=Aa how
   have HBE:=Aa hbel
   have hlen:rs.length+1≤1000000000:=by rw [HL.out];omega
   have hsz2:w.heap.size+1≤wr.heap.size:=by omega
   clear hnews hone how hbel hfin
   go_region_law (refine Cs (enc:=Aad b) (Aae b) _ _ 147 i1 _ rfl rfl Tryz.underlying147 ki kz0 kz1 kz2 rfl (by decide) (by decide) HOW.out HBE.out (by simp;omega) hlen rfl wr.heap.size ⟨wr.heap.size+1,0,none⟩ 1 rfl HNW.out HONE.out ?_;intro v' w1 hown1 hb1 hgr hat;obtain⟨ao',cap',rfl,c1,z1,hb',hn'⟩:=HFIN.out v' w1 hown1 hb1 hgr hat;have HB':=Aa hb';have HN:=Aa hn';clear hb' hn' hown1 hb1 hgr hat c0 z0)
   all_goals
    go_wp2
    go_roundw
    case rel=> exact⟨k+1,by omega,by go_num,HN.out,_,_,HB'.out⟩
    case measure=> simp [intOf];omega
  ·obtain rfl:k=a:=by omega
   obtain⟨lb,cap,rfl,g1,g2,_,_⟩:=hbn.ol.addr (by rw [hbn.lt];omega)
   have HBN:=Aa hbn
   have HL:=Aa hbn.lt
   clear hbn
   go_wp2
   go_ret2
   have h:=HBN.out
   refine⟨_,lb,cap,rs,rfl,hnx,HL.out,⟨h.c0,h.ol.B6 (by omega),fun i r row hr hT=> ?_,by simp [HL.out],Nat.le_refl _,by omega,fun i r hr=> ⟨?_,?_⟩,h.d3,by rw [HL.out];omega,hb3,by rw [HL.out];omega,hb⟩⟩
   ·rw [List.getElem?_replicate] at hT
    split at hT
    ·cases hT;exact(h.ow i r hr).B6 (by omega)
    ·cases hT
   ·have:=((h.ow i r hr).lt r rfl).1;omega
   ·intro e;subst e;exact h.d2 i _ hr rfl
end Go.Proofs.YtbibeionenjmfaaGreatDoor
