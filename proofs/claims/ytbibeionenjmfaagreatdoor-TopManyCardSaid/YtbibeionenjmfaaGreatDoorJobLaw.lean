/- What is wrong with a job (plain). -/
import Derived.Test.YtbibeionenjmfaaGreatDoorRefFold
set_option linter.unusedSimpArgs false
set_option linter.unusedVariables false
namespace Go.Proofs.YtbibeionenjmfaaGreatDoor
open Go.RowKit Go.ChangeShapes Go.WideShapes Go.ChangeAt
def An5 (k n:Int) (ws xs:List ByteArray) (is:List Int):Int:=
 if k=7 then n else if k=8 then((xs.getD 0 ⟨#[]⟩).size:Int) else if k=9 then(ws.length:Int) else if k=10 then IntKind.i64.wrap (is.getD 0 0+is.getD 1 0) else 0
mutual
def J3:Af→ByteArray→ByteArray→List ByteArray→Int
 | .mk k n _ a,line,it,ws=> An5 k n ws (U7 a line it ws) (Aoc a line it ws)
def Aoc:List Af→ByteArray→ByteArray→List ByteArray→List Int
 | [],_,_,_=> []
 | x::r,line,it,ws=> J3 x line it ws::Aoc r line it ws
end
set_option maxRecDepth 100000 in
set_option maxHeartbeats 1000000 in
theorem Amd (line it:ByteArray) (wo:Option Addr) (wcap:Nat) (ws:List ByteArray) (each:Bool) (hws:ws.length≤1000) (hB:Hid (∀ e:Af,J0 e true each=true→e.nodes≤1000→(Fw e line it ws).size≤1000000)) (d:Nat):∀ (k n:Int) (s:ByteArray) (a:List Af) (ao:Option Addr) (cap:Nat) (w:World),Ir w d (.mk k n s a) (L3 k n s ao a.length cap)→
 J0 (.mk k n s a) false each=true→(Af.mk k n s a).nodes≤1000→Sl 1 C8 w wo ws→
 Calls Tryz.prog 185 #[.agg #[.int .i64 k, .int .i64 n, .string s, .slice ao a.length cap], .agg #[.string line, .string it, .slice wo ws.length wcap]] w fun e w'=> e= .returned (.int .i64 (J3 (.mk k n s a) line it ws))∧Below w.heap.size w w':=by
 induction d with
 | zero=> intro _ _ _ _ _ _ _ h;exact h.elim
 | succ d ih=>
   intro k n s a ao cap w h hsh hnd hsl
   have HND:=Aa hnd
   clear hnd
   have IH:=Aa ih
   clear ih
   have hstr:=Afa line it wo wcap ws each hws hB d
   have HSTR:=Aa hstr
   clear hstr
   obtain⟨ao',cap',he,hk,hn,hs,ha,hkids⟩:=h
   obtain⟨rfl,rfl⟩:ao=ao'∧cap=cap':=by simp [L3] at he;exact⟨he.1,he.2⟩
   clear he
   obtain⟨p1,p2,p3,p4,p5,p6⟩:=Fu hsh
   have p4':7≤k:=by have:¬ k≤6:=by simpa using p4
                    omega
   have hb1:=D8 w k n s ao a.length cap
   have hb2:=Uq (Df w k n s ao a.length cap) line it wo ws.length wcap
   have hb12:=hb1.trans (hb2.mono hb1.size)
   obtain⟨c0,c1,c2,c3⟩:=Gr w k n s ao a.length cap
   have c0:=cell_later hb2 c0
   have c1:=cell_later hb2 c1
   have c2:=cell_later hb2 c2
   have c3:=cell_later hb2 c3
   obtain⟨r0,r1,r2⟩:=Tp (Df w k n s ao a.length cap) line it wo ws.length wcap
   have hs1:(Df w k n s ao a.length cap).heap.size=w.heap.size+1:=by simp
   rw [hs1] at r0 r1 r2
   have hsl2:=hsl.later hb12 (Nat.le_refl _)
   have HE:Hid (J3 (.mk k n s a) line it ws=An5 k n ws (U7 a line it ws) (Aoc a line it ws)):=by show _=_;rw [J3]
   have HB:=Aa hb12
   have HK:=Aa (hkids.mono (E':=Ir (Ki (Df w k n s ao a.length cap) line it wo ws.length wcap) d) (fun x q hq=> hq.later hb12 (Nat.le_refl _)) hb12 (Nat.le_refl _))
   have HSL:=Aa hsl2
   have P6:=Aa p6
   have P5:=Aa p5
   clear hsh hkids hs1 hb1 hb2 hb12 hsl hsl2 p2 p3 p4 p5 p6
   unfold maxLen at ha hs
   obtain rfl | rfl | rfl | rfl:k=7∨k=8∨k=9∨k=10:=by omega
   ·clear P5 P6 HSTR IH HK
    go_enter Tryz.func185,Tryz.ntmps185
    go_wp2
    go_ret
    exact⟨by rw [HE.out];rfl,HB.out⟩
   ·have hl1:a.length=1:=P5.out
    obtain⟨x0,rfl⟩:∃ x0,a= [x0]:=by
     match a,hl1 with
     | [x],_=> exact⟨x,rfl⟩
    obtain⟨b,off,d',k',n',s',l',ao',cap',rfl,hbs,rfl,hx,hex,g0,g1,g2,g3⟩:=HK.out.kid (i:=0) (by simp)
    obtain rfl:x0= .mk k' n' s' l':=by simpa using hx
    have hsh0:J0 (.mk k' n' s' l') true each=true:=by
     have:=P6.out
     rw [show Dm 8= [true] from rfl,Vb] at this
     simp only [Bool.and_eq_true] at this
     exact this.1
    have hbd:Below w.heap.size w ((Ki (Df w 8 n s (some ⟨b,off,none⟩) [Af.mk k' n' s' l'].length cap) line it wo ws.length wcap).drew):=HB.out.drew
    have HX:=Aa (HSTR.out k' n' s' l' ao' cap' ((Ki (Df w 8 n s (some ⟨b,off,none⟩) [Af.mk k' n' s' l'].length cap) line it wo ws.length wcap).drew) (hex.later ((Below.refl _ _).drew) (Nat.le_refl _)) hsh0 (by have:=HND.out;unfold Af.nodes Af.C9 Af.C9 at this;omega) (HSL.out.later ((Below.refl _ _).drew) (Nat.le_refl _)))
    have HV:Hid (J3 (.mk 8 n s [.mk k' n' s' l']) line it ws=((Fw (.mk k' n' s' l') line it ws).size:Int)):=by
     show _=_
     rw [HE.out];rfl
    have hz:=hB.out _ hsh0 (by have:=HND.out;unfold Af.nodes Af.C9 Af.C9 at this;omega)
    simp only [Nat.zero_mul,Nat.add_zero] at g0 g1 g2 g3
    have HBD:=Aa hbd
    clear hx hex hsh0 hbd P5 P6 HSTR IH HK HE
    simp only [List.length_cons,List.length_nil,Nat.zero_add] at g0 g1 g2 g3 c0 c1 c2 c3 r0 r1 r2 HX HBD
    generalize Fw (.mk k' n' s' l') line it ws=xs at *
    go_enter Tryz.func185,Tryz.ntmps185
    go_upto_region 5 with (fail)
    refine Bi 5 (by kernel_rfl) (by kernel_rfl) ?_
    simp only [List.take_succ_cons,List.take_zero,List.drop_succ_cons,List.drop_zero]
    iterate 5 still_step
    refine wpStill_nil ?_
    go_wp2_with fail
    refine HX.out.mono ?_
    rintro e w3 ⟨rfl,b3⟩
    have HB3:=Aa (HBD.out.trans (b3.mono HBD.out.size))
    clear HX b3
    go_wp2
    go_ret
    exact⟨by rw [HV.out];rfl,HB3.out⟩
   ·clear P5 P6 HSTR IH HK
    go_enter Tryz.func185,Tryz.ntmps185
    go_wp2
    go_ret
    exact⟨by rw [HE.out];rfl,HB.out⟩
   ·have hl2:a.length=2:=P5.out
    obtain⟨x0,x1,rfl⟩:∃ x0 x1,a= [x0,x1]:=by
     match a,hl2 with
     | [x,y],_=> exact⟨x,y,rfl⟩
    obtain⟨b,off,d',k0,n0,s0,l0,ao0,Uu,rfl,hbs,rfl,hx,hex,g0,g1,g2,g3⟩:=HK.out.kid (i:=0) (by simp)
    obtain⟨b',off',d'',k1,n1,s1,l1,ao1,cap1,eb,hbs',ed,hx',hex',u0,u1,u2,u3⟩:=HK.out.kid (i:=1) (by simp)
    cases eb
    cases ed
    obtain rfl:x0= .mk k0 n0 s0 l0:=by simpa using hx
    obtain rfl:x1= .mk k1 n1 s1 l1:=by simpa using hx'
    have hsh0:J0 (.mk k0 n0 s0 l0) false each=true∧J0 (.mk k1 n1 s1 l1) false each=true:=by
     have:=P6.out
     rw [show Dm 10= [false,false] from rfl,Vb,Vb] at this
     simp only [Bool.and_eq_true] at this
     exact⟨this.1,this.2.1⟩
    have HV:Hid (J3 (.mk 10 n s [.mk k0 n0 s0 l0, .mk k1 n1 s1 l1]) line it ws=IntKind.i64.wrap (J3 (.mk k0 n0 s0 l0) line it ws+J3 (.mk k1 n1 s1 l1) line it ws)):=by
     show _=_
     rw [HE.out];rfl
    have hnk:(Af.mk k0 n0 s0 l0).nodes≤1000∧(Af.mk k1 n1 s1 l1).nodes≤1000:=by
     have:=HND.out
     unfold Af.nodes Af.C9 Af.C9 Af.C9 at this
     omega
    have I0:=fun w' (bw:Below (Ki (Df w 10 n s (some ⟨b,off,none⟩) [Af.mk k0 n0 s0 l0,Af.mk k1 n1 s1 l1].length cap) line it wo ws.length wcap).heap.size (Ki (Df w 10 n s (some ⟨b,off,none⟩) [Af.mk k0 n0 s0 l0,Af.mk k1 n1 s1 l1].length cap) line it wo ws.length wcap) w')=>
     IH.out k0 n0 s0 l0 ao0 Uu w' (hex.later bw (Nat.le_refl _)) hsh0.1 hnk.1 (HSL.out.later bw (Nat.le_refl _))
    have I1:=fun w' (bw:Below (Ki (Df w 10 n s (some ⟨b,off,none⟩) [Af.mk k0 n0 s0 l0,Af.mk k1 n1 s1 l1].length cap) line it wo ws.length wcap).heap.size (Ki (Df w 10 n s (some ⟨b,off,none⟩) [Af.mk k0 n0 s0 l0,Af.mk k1 n1 s1 l1].length cap) line it wo ws.length wcap) w')=>
     IH.out k1 n1 s1 l1 ao1 cap1 w' (hex'.later bw (Nat.le_refl _)) hsh0.2 hnk.2 (HSL.out.later bw (Nat.le_refl _))
    simp only [Nat.zero_mul,Nat.add_zero,Nat.one_mul] at g0 g1 g2 g3 u0 u1 u2 u3
    simp only [List.length_cons,List.length_nil,Nat.zero_add,Nat.reduceAdd] at g0 g1 g2 g3 u0 u1 u2 u3 c0 c1 c2 c3 r0 r1 r2 I0 I1 HB
    have HI0:=Aa I0
    have HI1:=Aa I1
    generalize J3 (.mk k0 n0 s0 l0) line it ws=xs at *
    generalize J3 (.mk k1 n1 s1 l1) line it ws=ys at *
    simp only [Ki,Df] at c3 g0 g1 g2 g3 u0 u1 u2 u3 r0 r1 r2 HI0 HI1 HB
    clear hnk hx hx' hex hex' hsh0 P5 P6 HSTR IH HK HE I0 I1 hl2 HSL hbs hbs'
    go_enter Tryz.func185,Tryz.ntmps185
    go_upto_region 9 with (fail)
    generalize (w.alloc (.cells #[.int .i64 10, .int .i64 n, .string s, .slice (some ⟨b,off,none⟩) 2 cap] 191)).alloc (.cells #[.string line, .string it, .slice wo ws.length wcap] 246)=W2 at *
    clear c0 c1 c2
    have hwf:Below W2.heap.size W2 W2.drew:=(Below.refl _ _).drew
    go_region_held3 (fun w'=> Below W2.heap.size W2 w'∧w'.cell? ⟨w.heap.size,3,none⟩=some (.slice (some ⟨b,off,none⟩) 2 cap)∧w'.cell? ⟨b,off,none⟩=some (.int .i64 k0)∧w'.cell? ⟨b,off+1,none⟩=some (.int .i64 n0)∧w'.cell? ⟨b,off+2,none⟩=some (.string s0)∧w'.cell? ⟨b,off+3,none⟩=some (.slice ao0 l0.length Uu)∧w'.cell? ⟨b,off+4,none⟩=some (.int .i64 k1)∧w'.cell? ⟨b,off+4+1,none⟩=some (.int .i64 n1)∧w'.cell? ⟨b,off+4+2,none⟩=some (.string s1)∧w'.cell? ⟨b,off+4+3,none⟩=some (.slice ao1 l1.length cap1)∧w'.cell? ⟨w.heap.size+1,0,none⟩=some (.string line)∧w'.cell? ⟨w.heap.size+1,1,none⟩=some (.string it)∧w'.cell? ⟨w.heap.size+1,2,none⟩=some (.slice wo ws.length wcap))
     (first
      | exact⟨hwf,c3,g0,g1,g2,g3,u0,u1,u2,u3,r0,r1,r2⟩
      | (have h:=(by assumption:Below W2.heap.size W2 _∧_∧_);exact⟨h.1.trans (b3.mono h.1.size),cell_later b3 h.2.1,cell_later b3 h.2.2.1,cell_later b3 h.2.2.2.1,cell_later b3 h.2.2.2.2.1,cell_later b3 h.2.2.2.2.2.1,cell_later b3 h.2.2.2.2.2.2.1,cell_later b3 h.2.2.2.2.2.2.2.1,cell_later b3 h.2.2.2.2.2.2.2.2.1,cell_later b3 h.2.2.2.2.2.2.2.2.2.1,cell_later b3 h.2.2.2.2.2.2.2.2.2.2.1,cell_later b3 h.2.2.2.2.2.2.2.2.2.2.2.1,cell_later b3 h.2.2.2.2.2.2.2.2.2.2.2.2⟩)
      | go_keep)
     (first
      | (go_at_call_of 185 (Value.agg #[Value.int IntKind.i64 k0,Value.int IntKind.i64 n0,Value.string s0,Value.slice ao0 l0.length Uu]);have h:=(by assumption:Below W2.heap.size W2 _∧_∧_);refine(HI0.out _ h.1).mono ?_;clear h;rintro e w3 ⟨rfl,b3⟩)
      | (go_at_call_of 185 (Value.agg #[Value.int IntKind.i64 k1,Value.int IntKind.i64 n1,Value.string s1,Value.slice ao1 l1.length cap1]);have h:=(by assumption:Below W2.heap.size W2 _∧_∧_);refine(HI1.out _ h.1).mono ?_;clear h;rintro e w3 ⟨rfl,b3⟩))
    all_goals
     have h:=(by assumption:Below W2.heap.size W2 _∧_∧_)
     have HBE:=Aa (HB.out.trans (h.1.mono HB.out.size))
     clear h
     go_wp2
     go_ret
     exact⟨by rw [HV.out];rfl,HBE.out⟩
end Go.Proofs.YtbibeionenjmfaaGreatDoor
namespace Go.Proofs.YtbibeionenjmfaaGreatDoor
open Go.RowKit
structure Ax where
 each:Bool
 A8:Int
 cond:Af
 Cy:ByteArray
 key:Af
 val:Af
def Jd (k:ByteArray):ByteArray:=k.extract 0 (min k.size 20)
def ifR (r:Ax) (line it:ByteArray) (ws:List ByteArray):Bool:=r.A8 ==0 || (decide (Fw r.cond line it ws=r.Cy) ==decide (r.A8=1))
def Uj (r:Ax) (kind:Int) (line it:ByteArray) (ws:List ByteArray):Pr:=(Jd (Fw r.key line it ws),first kind (J3 r.val line it ws))
def Jf (r:Ax) (kind:Int) (line:ByteArray) (ws:List ByteArray) (it:ByteArray):Option Pr:=if ifR r line it ws=true then some (Uj r kind line it ws) else none
def Yi (r:Ax) (ws:List ByteArray):List ByteArray:=if r.each=true then ws else [⟨#[]⟩]
def Nx (r:Ax) (kind:Int) (line:ByteArray):List Pr:=(Yi r (A4 line)).filterMap (Jf r kind line (A4 line))
def Fj (rs:List Ax) (kind:Int) (line:ByteArray):List Pr:=rs.flatMap fun r=> Nx r kind line
theorem Zi {rs:List Ax} {i:Nat} {r:Ax} (kind:Int) (line:ByteArray) (h:rs[i]?=some r):Fj (rs.take (i+1)) kind line=Fj (rs.take i) kind line++Nx r kind line:=by
 obtain⟨hlt,hx⟩:=List.getElem?_eq_some_iff.1 h
 unfold Fj
 rw [List.take_succ_eq_append_getElem hlt,hx,List.flatMap_append]
 simp
theorem Aid (r:Ax) (ws:List ByteArray):(Yi r ws).length≤ws.length+1:=by
 unfold Yi
 split
 ·omega
 ·simp
theorem Ss (r:Ax) (kind:Int) (line:ByteArray):(Nx r kind line).length≤(A4 line).length+1:=
 Nat.le_trans (List.length_filterMap_le _ _) (Aid r _)
end Go.Proofs.YtbibeionenjmfaaGreatDoor
namespace Go.Proofs.YtbibeionenjmfaaGreatDoor
open Go.RowKit
def Ur:Af→Bool
 | .mk k n s a=> (k ==0) && ((n ==0) && (s.toList.isEmpty && a.isEmpty))
def C5 (r:Ax):Int:=
 if r.A8=0 then(if r.Cy.toList.isEmpty=true∧Ur r.cond=true then 0 else 3)
 else if r.A8=1∨r.A8=2 then(if r.Cy.size≤20∧decide (0≤Lib.indexByte r.Cy.data.toList 10)=false then C0 r.cond true r.each else 3)
 else 3
def Ce (r:Ax):Int:=
 if C5 r≠0 then C5 r else if C0 r.key true r.each≠0 then C0 r.key true r.each else C0 r.val false r.each
def H8:List Ax→Int
 | []=> 0
 | r::l=> if Ce r≠0 then Ce r else H8 l
def Dp (rs:List Ax) (fold slices:Int):Int:=
 if rs.length < 1∨4 < rs.length then 2 else if fold < 1∨4 < fold then 3 else if slices < 1∨4 < slices then 1 else H8 rs
theorem Abd {l:List Ax} {i:Nat} {r:Ax} (h:l[i]?=some r):H8 (l.drop i)=if Ce r≠0 then Ce r else H8 (l.drop (i+1)):=by
 obtain⟨hlt,hx⟩:=List.getElem?_eq_some_iff.1 h
 rw [List.drop_eq_getElem_cons hlt,hx]
 rfl
theorem N5:∀ {l:List Ax},H8 l=0→∀ r∈l,Ce r=0
 | [],_,r,hr=> by cases hr
 | a::l,h,r,hr=> by
   unfold H8 at h
   split at h
   ·rename_i h2;exact absurd h h2
   ·rename_i h2
    rcases List.mem_cons.1 hr with rfl | hr
    ·exact Classical.not_not.1 h2
    ·exact N5 h r hr
theorem Ux {e:Af} {text each:Bool} (h:C0 e text each=0):e.nodes≤30∧e.deep≤5∧J0 e text each=true:=by
 unfold C0 at h
 split at h
 ·cases h
 ·rename_i h1
  split at h
  ·rename_i h2;exact⟨by omega,by omega,h2⟩
  ·cases h
structure Gv (r:Ax):Prop where
 key:r.key.nodes≤30∧r.key.deep≤5∧J0 r.key true r.each=true
 val:r.val.nodes≤30∧r.val.deep≤5∧J0 r.val false r.each=true
 cond:r.A8≠0→r.cond.nodes≤30∧r.cond.deep≤5∧J0 r.cond true r.each=true
 whn:r.A8=0∨r.A8=1∨r.A8=2
 Cy:r.Cy.size≤20
theorem Gv.of {r:Ax} (h:Ce r=0):Gv r:=by
 unfold Ce at h
 split at h
 ·rename_i h2;exact absurd h h2
 ·rename_i h1
  split at h
  ·rename_i h2;exact absurd h h2
  ·rename_i h2
   have hc:C5 r=0:=Classical.not_not.1 h1
   have hk:C0 r.key true r.each=0:=Classical.not_not.1 h2
   refine⟨Ux hk,Ux h,fun hw=> ?_,?_,?_⟩
   ·unfold C5 at hc
    rw [if_neg hw] at hc
    split at hc
    ·split at hc
     ·exact Ux hc
     ·cases hc
    ·cases hc
   ·unfold C5 at hc
    split at hc
    ·left;assumption
    ·split at hc
     ·right;assumption
     ·cases hc
   ·unfold C5 at hc
    split at hc
    ·split at hc
     ·rename_i h3
      have h4:r.Cy.toList= []:=List.isEmpty_iff.1 h3.1
      have h5:r.Cy.size=r.Cy.toList.length:=by rw [tl,Fi]
      rw [h5,h4];exact Nat.zero_le _
     ·cases hc
    ·split at hc
     ·split at hc
      ·rename_i h3;exact h3.1
      ·cases hc
     ·cases hc
theorem Na {rs:List Ax} {fold slices:Int} (h:Dp rs fold slices=0):(1≤rs.length∧rs.length≤4)∧(1≤fold∧fold≤4)∧(1≤slices∧slices≤4)∧∀ r∈rs,Ce r=0:=by
 unfold Dp at h
 split at h
 ·cases h
 ·split at h
  ·cases h
  ·split at h
   ·cases h
   ·exact⟨by omega,by omega,by omega,N5 h⟩
end Go.Proofs.YtbibeionenjmfaaGreatDoor
