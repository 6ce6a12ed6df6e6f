/- Expressions: what a text is (expr.Str). -/
import Derived.Deep.RegionHeld3
import Derived.Test.YtbibeionenjmfaaGreatDoorExpr6
set_option linter.unusedSimpArgs false
set_option linter.unusedVariables false
namespace Go.Proofs.YtbibeionenjmfaaGreatDoor
open Go.RowKit Go.ChangeShapes Go.WideShapes Go.ChangeAt
def Alg (k n:Int) (s line it:ByteArray) (ws xs:List ByteArray):ByteArray:=
 if k=1 then it else if k=2 then line else if k=3 then ws.getD n.toNat ⟨#[]⟩ else if k=4 then s else if k=5 then xs.getD 0 ⟨#[]⟩++xs.getD 1 ⟨#[]⟩ else if k=6 then(xs.getD 0 ⟨#[]⟩).extract 0 (min n.toNat (xs.getD 0 ⟨#[]⟩).size) else⟨#[]⟩
mutual
def Fw:Af→ByteArray→ByteArray→List ByteArray→ByteArray
 | .mk k n s a,line,it,ws=> Alg k n s line it ws (U7 a line it ws)
def U7:List Af→ByteArray→ByteArray→List ByteArray→List ByteArray
 | [],_,_,_=> []
 | x::r,line,it,ws=> Fw x line it ws::U7 r line it ws
end
theorem Fu {k n:Int} {s:ByteArray} {a:List Af} {text each:Bool} (h:J0 (.mk k n s a) text each=true):
 (1≤k∧k≤10)∧Oz k n each=true∧Xn k s=true∧decide (k≤6)=text∧a.length=(Dm k).length∧Vb a (Dm k) each=true:=by
 rw [J0] at h
 simp only [Bool.and_eq_true,decide_eq_true_eq,beq_iff_eq] at h
 obtain⟨h1,h2,h3,h4,h5,h6⟩:=h
 exact⟨h1,h2,h3,h4,h5,h6⟩
theorem Alu {k n:Int} {each:Bool} (h:Oz k n each=true) (hk:k=3∨k=6):0≤n∧n≤120:=by
 unfold Oz at h
 rw [if_neg (by omega),if_pos hk] at h
 simpa using h
abbrev Ki (w:World) (line it:ByteArray) (wo:Option Addr) (len cap:Nat):World:=w.alloc (.cells #[.string line, .string it, .slice wo len cap] 246)
theorem Tp (w:World) (line it:ByteArray) (wo:Option Addr) (len cap:Nat):
 (Ki w line it wo len cap).cell? ⟨w.heap.size,0,none⟩=some (.string line)∧(Ki w line it wo len cap).cell? ⟨w.heap.size,1,none⟩=some (.string it)∧(Ki w line it wo len cap).cell? ⟨w.heap.size,2,none⟩=some (.slice wo len cap):=
 have h:=Bk.new (w:=w) (cs:= #[.string line, .string it, .slice wo len cap]) (t:=246) rfl
 ⟨h.get (j:=0) rfl,h.get (j:=1) rfl,h.get (j:=2) rfl⟩
theorem Uq (w:World) (line it:ByteArray) (wo:Option Addr) (len cap:Nat):Below w.heap.size w (Ki w line it wo len cap):=(Below.refl _ _).alloc (Nat.le_refl _) _
set_option maxRecDepth 100000 in
set_option maxHeartbeats 1000000 in
theorem Afa (line it:ByteArray) (wo:Option Addr) (wcap:Nat) (ws:List ByteArray) (each:Bool) (hws:ws.length≤1000) (hB:Hid (∀ e:Af,J0 e true each=true→e.nodes≤1000→(Fw e line it ws).size≤1000000)) (d:Nat):∀ (k n:Int) (s:ByteArray) (a:List Af) (ao:Option Addr) (cap:Nat) (w:World),Ir w d (.mk k n s a) (L3 k n s ao a.length cap)→
 J0 (.mk k n s a) true each=true→(Af.mk k n s a).nodes≤1000→Sl 1 C8 w wo ws→
 Calls Tryz.prog 183 #[.agg #[.int .i64 k, .int .i64 n, .string s, .slice ao a.length cap], .agg #[.string line, .string it, .slice wo ws.length wcap]] w fun e w'=> e= .returned (.string (Fw (.mk k n s a) line it ws))∧Below w.heap.size w w':=by
 induction d with
 | zero=> intro _ _ _ _ _ _ _ h;exact h.elim
 | succ d ih=>
   intro k n s a ao cap w h hsh hnd hsl
   have HND:=Aa hnd
   clear hnd
   have IH:=Aa ih
   clear ih
   obtain⟨ao',cap',he,hk,hn,hs,ha,hkids⟩:=h
   obtain⟨rfl,rfl⟩:ao=ao'∧cap=cap':=by simp [L3] at he;exact⟨he.1,he.2⟩
   clear he
   obtain⟨p1,p2,p3,p4,p5,p6⟩:=Fu hsh
   have p4':k≤6:=by simpa using p4
   have hb1:=D8 w k n s ao a.length cap
   have hb2:=Uq (Df w k n s ao a.length cap) line it wo ws.length wcap
   have hb12:=hb1.trans (hb2.mono hb1.size)
   obtain⟨c0,c1,c2,c3⟩:=Gr w k n s ao a.length cap
   have c0:=cell_later hb2 c0
   have c1:=cell_later hb2 c1
   have c2:=cell_later hb2 c2
   have c3:=cell_later hb2 c3
   obtain⟨r0,r1,r2⟩:=Tp (Df w k n s ao a.length cap) line it wo ws.length wcap
   have hs1:(Df w k n s ao a.length cap).heap.size=w.heap.size+1:=by simp
   rw [hs1] at r0 r1 r2
   have hsl2:=hsl.later hb12 (Nat.le_refl _)
   have HE:Hid (Fw (.mk k n s a) line it ws=Alg k n s line it ws (U7 a line it ws)):=by show _=_;rw [Fw]
   have HB:=Aa hb12
   have HK:=Aa (hkids.mono (E':=Ir (Ki (Df w k n s ao a.length cap) line it wo ws.length wcap) d) (fun x q hq=> hq.later hb12 (Nat.le_refl _)) hb12 (Nat.le_refl _))
   have HSL:=Aa hsl2
   have HN:=fun hk'=> Aa (Alu p2 hk')
   have P6:=Aa p6
   have P5:=Aa p5
   clear hsh hkids hs1 hb1 hb2 hb12 hsl hsl2 p2 p3 p4 p5 p6
   unfold maxLen at ha hs
   obtain rfl | rfl | rfl | rfl | rfl | rfl:k=1∨k=2∨k=3∨k=4∨k=5∨k=6:=by omega
   ·clear P5 P6 HN IH HK
    go_enter Tryz.func183,Tryz.ntmps183
    go_wp2
    go_ret
    exact⟨by rw [HE.out];rfl,HB.out⟩
   ·clear P5 P6 HN IH HK
    go_enter Tryz.func183,Tryz.ntmps183
    go_wp2
    go_ret
    exact⟨by rw [HE.out];rfl,HB.out⟩
   ·obtain⟨n0,n1⟩:=(HN (.inl rfl)).out
    obtain⟨m,rfl⟩:∃ m:Nat,n=m:=⟨n.toNat,by omega⟩
    clear P5 P6 HN IH HK
    by_cases hlt:m < ws.length
    ·obtain⟨b,off,x,rfl,hbw,hlk,u0⟩:=HSL.out.str hlt
     have HX:Hid (Fw (.mk 3 m s a) line it ws=x):=by
      show _=_
      rw [HE.out]
      show ws.getD (m:Int).toNat ⟨#[]⟩=x
      rw [Int.toNat_natCast,List.getD_eq_getElem?_getD,hlk];rfl
     have f1:(0:Int)≤(m:Int)∧(m:Int) < (ws.length:Int):=by omega
     obtain⟨f1,f2⟩:=f1
     clear hlk HE
     go_enter Tryz.func183,Tryz.ntmps183
     go_wp2
     go_ret
     exact⟨by rw [HX.out];rfl,HB.out⟩
    ·have HX:Hid (Fw (.mk 3 m s a) line it ws=⟨#[]⟩):=by
      show _=_
      rw [HE.out]
      show ws.getD (m:Int).toNat ⟨#[]⟩=_
      rw [Int.toNat_natCast,List.getD_eq_getElem?_getD,List.getElem?_eq_none (by omega)];rfl
     have f2:decide ((m:Int) < (ws.length:Int))=false:=by simp;omega
     clear HE
     go_enter Tryz.func183,Tryz.ntmps183
     go_wp2
     go_ret
     exact⟨by rw [HX.out];rfl,HB.out⟩
   ·clear P5 P6 HN IH HK
    go_enter Tryz.func183,Tryz.ntmps183
    go_wp2
    go_ret
    exact⟨by rw [HE.out];rfl,HB.out⟩
   ·have hl2:a.length=2:=P5.out
    obtain⟨x0,x1,rfl⟩:∃ x0 x1,a= [x0,x1]:=by
     match a,hl2 with
     | [x,y],_=> exact⟨x,y,rfl⟩
    obtain⟨b,off,d',k0,n0,s0,l0,ao0,Uu,rfl,hbs,rfl,hx,hex,g0,g1,g2,g3⟩:=HK.out.kid (i:=0) (by simp)
    obtain⟨b',off',d'',k1,n1,s1,l1,ao1,cap1,eb,hbs',ed,hx',hex',u0,u1,u2,u3⟩:=HK.out.kid (i:=1) (by simp)
    cases eb
    cases ed
    obtain rfl:x0= .mk k0 n0 s0 l0:=by simpa using hx
    obtain rfl:x1= .mk k1 n1 s1 l1:=by simpa using hx'
    have hsh0:J0 (.mk k0 n0 s0 l0) true each=true∧J0 (.mk k1 n1 s1 l1) true each=true:=by
     have:=P6.out
     rw [show Dm 5= [true,true] from rfl,Vb,Vb] at this
     simp only [Bool.and_eq_true] at this
     exact⟨this.1,this.2.1⟩
    have HV:Hid (Fw (.mk 5 n s [.mk k0 n0 s0 l0, .mk k1 n1 s1 l1]) line it ws=Fw (.mk k0 n0 s0 l0) line it ws++Fw (.mk k1 n1 s1 l1) line it ws):=by
     show _=_
     rw [HE.out];rfl
    have hnk:(Af.mk k0 n0 s0 l0).nodes≤1000∧(Af.mk k1 n1 s1 l1).nodes≤1000:=by
     have:=HND.out
     unfold Af.nodes Af.C9 Af.C9 Af.C9 at this
     omega
    have hz0:=hB.out _ hsh0.1 hnk.1
    have hz1:=hB.out _ hsh0.2 hnk.2
    have I0:=fun w' (bw:Below (Ki (Df w 5 n s (some ⟨b,off,none⟩) [Af.mk k0 n0 s0 l0,Af.mk k1 n1 s1 l1].length cap) line it wo ws.length wcap).heap.size (Ki (Df w 5 n s (some ⟨b,off,none⟩) [Af.mk k0 n0 s0 l0,Af.mk k1 n1 s1 l1].length cap) line it wo ws.length wcap) w')=>
     IH.out k0 n0 s0 l0 ao0 Uu w' (hex.later bw (Nat.le_refl _)) hsh0.1 hnk.1 (HSL.out.later bw (Nat.le_refl _))
    have I1:=fun w' (bw:Below (Ki (Df w 5 n s (some ⟨b,off,none⟩) [Af.mk k0 n0 s0 l0,Af.mk k1 n1 s1 l1].length cap) line it wo ws.length wcap).heap.size (Ki (Df w 5 n s (some ⟨b,off,none⟩) [Af.mk k0 n0 s0 l0,Af.mk k1 n1 s1 l1].length cap) line it wo ws.length wcap) w')=>
     IH.out k1 n1 s1 l1 ao1 cap1 w' (hex'.later bw (Nat.le_refl _)) hsh0.2 hnk.2 (HSL.out.later bw (Nat.le_refl _))
    simp only [Nat.zero_mul,Nat.add_zero,Nat.one_mul] at g0 g1 g2 g3 u0 u1 u2 u3
    simp only [List.length_cons,List.length_nil,Nat.zero_add,Nat.reduceAdd] at g0 g1 g2 g3 u0 u1 u2 u3 c0 c1 c2 c3 r0 r1 r2 I0 I1 HB
    have HI0:=Aa I0
    have HI1:=Aa I1
    generalize Fw (.mk k0 n0 s0 l0) line it ws=xs at *
    generalize Fw (.mk k1 n1 s1 l1) line it ws=ys at *
    have hzz:¬ (9223372036854775807 < xs.size+ys.size):=by omega
    simp only [Ki,Df] at c3 g0 g1 g2 g3 u0 u1 u2 u3 r0 r1 r2 HI0 HI1 HB
    clear hnk hx hx' hex hex' hsh0 P5 P6 HN IH HK HE I0 I1 hl2 HSL hbs hbs'
    go_enter Tryz.func183,Tryz.ntmps183
    go_upto_region 12 with (fail)
    generalize (w.alloc (.cells #[.int .i64 5, .int .i64 n, .string s, .slice (some ⟨b,off,none⟩) 2 cap] 191)).alloc (.cells #[.string line, .string it, .slice wo ws.length wcap] 246)=W2 at *
    clear c0 c1 c2
    have hwf:Below W2.heap.size W2 W2.drew:=(Below.refl _ _).drew
    go_region_held3 (fun w'=> Below W2.heap.size W2 w'∧w'.cell? ⟨w.heap.size,3,none⟩=some (.slice (some ⟨b,off,none⟩) 2 cap)∧w'.cell? ⟨b,off,none⟩=some (.int .i64 k0)∧w'.cell? ⟨b,off+1,none⟩=some (.int .i64 n0)∧w'.cell? ⟨b,off+2,none⟩=some (.string s0)∧w'.cell? ⟨b,off+3,none⟩=some (.slice ao0 l0.length Uu)∧w'.cell? ⟨b,off+4,none⟩=some (.int .i64 k1)∧w'.cell? ⟨b,off+4+1,none⟩=some (.int .i64 n1)∧w'.cell? ⟨b,off+4+2,none⟩=some (.string s1)∧w'.cell? ⟨b,off+4+3,none⟩=some (.slice ao1 l1.length cap1)∧w'.cell? ⟨w.heap.size+1,0,none⟩=some (.string line)∧w'.cell? ⟨w.heap.size+1,1,none⟩=some (.string it)∧w'.cell? ⟨w.heap.size+1,2,none⟩=some (.slice wo ws.length wcap))
     (first
      | exact⟨hwf,c3,g0,g1,g2,g3,u0,u1,u2,u3,r0,r1,r2⟩
      | (have h:=(by assumption:Below W2.heap.size W2 _∧_∧_);exact⟨h.1.trans (b3.mono h.1.size),cell_later b3 h.2.1,cell_later b3 h.2.2.1,cell_later b3 h.2.2.2.1,cell_later b3 h.2.2.2.2.1,cell_later b3 h.2.2.2.2.2.1,cell_later b3 h.2.2.2.2.2.2.1,cell_later b3 h.2.2.2.2.2.2.2.1,cell_later b3 h.2.2.2.2.2.2.2.2.1,cell_later b3 h.2.2.2.2.2.2.2.2.2.1,cell_later b3 h.2.2.2.2.2.2.2.2.2.2.1,cell_later b3 h.2.2.2.2.2.2.2.2.2.2.2.1,cell_later b3 h.2.2.2.2.2.2.2.2.2.2.2.2⟩)
      | go_keep)
     (first
      | (go_at_call_of 183 (Value.agg #[Value.int IntKind.i64 k0,Value.int IntKind.i64 n0,Value.string s0,Value.slice ao0 l0.length Uu]);have h:=(by assumption:Below W2.heap.size W2 _∧_∧_);refine(HI0.out _ h.1).mono ?_;clear h;rintro e w3 ⟨rfl,b3⟩)
      | (go_at_call_of 183 (Value.agg #[Value.int IntKind.i64 k1,Value.int IntKind.i64 n1,Value.string s1,Value.slice ao1 l1.length cap1]);have h:=(by assumption:Below W2.heap.size W2 _∧_∧_);refine(HI1.out _ h.1).mono ?_;clear h;rintro e w3 ⟨rfl,b3⟩))
    all_goals
     have h:=(by assumption:Below W2.heap.size W2 _∧_∧_)
     have HBE:=Aa (HB.out.trans (h.1.mono HB.out.size))
     clear h
     go_wp2
     go_ret
     exact⟨by rw [HV.out];rfl,HBE.out⟩
   ·obtain⟨n0,n1⟩:=(HN (.inr rfl)).out
    obtain⟨m,rfl⟩:∃ m:Nat,n=m:=⟨n.toNat,by omega⟩
    have hl1:a.length=1:=P5.out
    obtain⟨x0,rfl⟩:∃ x0,a= [x0]:=by
     match a,hl1 with
     | [x],_=> exact⟨x,rfl⟩
    obtain⟨b,off,d',k',n',s',l',ao',cap',rfl,hbs,rfl,hx,hex,g0,g1,g2,g3⟩:=HK.out.kid (i:=0) (by simp)
    obtain rfl:x0= .mk k' n' s' l':=by simpa using hx
    have hsh0:J0 (.mk k' n' s' l') true each=true:=by
     have:=P6.out
     rw [show Dm 6= [true] from rfl,Vb] at this
     simp only [Bool.and_eq_true] at this
     exact this.1
    have hbd:Below w.heap.size w ((Ki (Df w 6 m s (some ⟨b,off,none⟩) [Af.mk k' n' s' l'].length cap) line it wo ws.length wcap).drew):=HB.out.drew
    have HX:=Aa (IH.out k' n' s' l' ao' cap' ((Ki (Df w 6 m s (some ⟨b,off,none⟩) [Af.mk k' n' s' l'].length cap) line it wo ws.length wcap).drew) (hex.later ((Below.refl _ _).drew) (Nat.le_refl _)) hsh0 (by have:=HND.out;unfold Af.nodes Af.C9 Af.C9 at this;omega) (HSL.out.later ((Below.refl _ _).drew) (Nat.le_refl _)))
    have HV:Hid (Fw (.mk 6 m s [.mk k' n' s' l']) line it ws=(Fw (.mk k' n' s' l') line it ws).extract 0 (min m (Fw (.mk k' n' s' l') line it ws).size)):=by
     show _=_
     rw [HE.out];rfl
    simp only [Nat.zero_mul,Nat.add_zero] at g0 g1 g2 g3
    have HBD:=Aa hbd
    clear hx hex hsh0 hbd P5 P6 HN IH HK HE
    simp only [List.length_cons,List.length_nil,Nat.zero_add] at g0 g1 g2 g3 c0 c1 c2 c3 r0 r1 r2 HX HBD
    generalize Fw (.mk k' n' s' l') line it ws=xs at *
    go_enter Tryz.func183,Tryz.ntmps183
    go_upto_region 14 with (fail)
    refine Bi 5 (by kernel_rfl) (by kernel_rfl) ?_
    simp only [List.take_succ_cons,List.take_zero,List.drop_succ_cons,List.drop_zero]
    iterate 5 still_step
    refine wpStill_nil ?_
    go_wp2_with fail
    refine HX.out.mono ?_
    rintro e w3 ⟨rfl,b3⟩
    have HB3:=Aa (HBD.out.trans (b3.mono HBD.out.size))
    have q1:w3.cell? ⟨w.heap.size,1,none⟩=some (.int .i64 m):=cell_later b3 c1
    clear HX b3
    go_wp2
    go_ret
    refine⟨?_,HB3.out⟩
    rw [HV.out]
    show Ending.returned (.string (xs.extract 0 (min (m:Int) (xs.size:Int)).toNat))=_
    rw [show(min (m:Int) (xs.size:Int)).toNat=min m xs.size by omega]
end Go.Proofs.YtbibeionenjmfaaGreatDoor
