/- What is wrong with a job (plain). -/
import Derived.Test.YtbibeionenjmfaaGreatDoorZExpr6
import Derived.Test.YtbibeionenjmfaaGreatDoorZRefFold
set_option linter.unusedSimpArgs false
set_option linter.unusedVariables false
namespace Go.Proofs.YtbibeionenjmfaaGreatDoor
open Go.RowKit Go.ChangeShapes Go.WideShapes Go.ChangeAt
def Anr (k n:Int) (s line it:ByteArray) (ws xs:List ByteArray):ByteArray:=
 if k=1 then it else if k=2 then line else if k=3 then ws.getD n.toNat ⟨#[]⟩ else if k=4 then s else if k=5 then xs.getD 0 ⟨#[]⟩++xs.getD 1 ⟨#[]⟩ else if k=6 then(xs.getD 0 ⟨#[]⟩).extract 0 (min n.toNat (xs.getD 0 ⟨#[]⟩).size) else⟨#[]⟩
mutual
def Ga:Ah→ByteArray→ByteArray→List ByteArray→ByteArray
 | .mk k n s a,line,it,ws=> Anr k n s line it ws (V3 a line it ws)
def V3:List Ah→ByteArray→ByteArray→List ByteArray→List ByteArray
 | [],_,_,_=> []
 | x::r,line,it,ws=> Ga x line it ws::V3 r line it ws
end
theorem F6 {k n:Int} {s:ByteArray} {a:List Ah} {text each:Bool} (h:Kg (.mk k n s a) text each=true):
 (1≤k∧k≤10)∧Pj k n each=true∧Za k s=true∧decide (k≤6)=text∧a.length=(Dp k).length∧V2 a (Dp k) each=true:=by
 rw [Kg] at h
 simp only [Bool.and_eq_true,decide_eq_true_eq,beq_iff_eq] at h
 obtain⟨h1,h2,h3,h4,h5,h6⟩:=h
 exact⟨h1,h2,h3,h4,h5,h6⟩
theorem Am4 {k n:Int} {each:Bool} (h:Pj k n each=true) (hk:k=3∨k=6):0≤n∧n≤120:=by
 unfold Pj at h
 rw [if_neg (by omega),if_pos hk] at h
 simpa using h
abbrev Kl (w:World) (line it:ByteArray) (wo:Option Addr) (len cap:Nat):World:=w.alloc (.cells #[.string line, .string it, .slice wo len cap] 246)
theorem Tr (w:World) (line it:ByteArray) (wo:Option Addr) (len cap:Nat):
 (Kl w line it wo len cap).cell? ⟨w.heap.size,0,none⟩=some (.string line)∧(Kl w line it wo len cap).cell? ⟨w.heap.size,1,none⟩=some (.string it)∧(Kl w line it wo len cap).cell? ⟨w.heap.size,2,none⟩=some (.slice wo len cap):=
 have h:=Bk.new (w:=w) (cs:= #[.string line, .string it, .slice wo len cap]) (t:=246) rfl
 ⟨h.get (j:=0) rfl,h.get (j:=1) rfl,h.get (j:=2) rfl⟩
theorem Tq (w:World) (line it:ByteArray) (wo:Option Addr) (len cap:Nat):Below w.heap.size w (Kl w line it wo len cap):=(Below.refl _ _).alloc (Nat.le_refl _) _
set_option maxRecDepth 100000 in
set_option maxHeartbeats 1000000 in
theorem Ae7 (line it:ByteArray) (wo:Option Addr) (wcap:Nat) (ws:List ByteArray) (each:Bool) (hws:ws.length≤1000) (hB:Hid (∀ e:Ah,Kg e true each=true→e.nodes≤1000→(Ga e line it ws).size≤1000000)) (d:Nat):∀ (k n:Int) (s:ByteArray) (a:List Ah) (ao:Option Addr) (cap:Nat) (w:World),Ip w d (.mk k n s a) (Mh k n s ao a.length cap)→
 Kg (.mk k n s a) true each=true→(Ah.mk k n s a).nodes≤1000→Sl 1 Cm w wo ws→
 Calls Tryz.prog 183 #[.agg #[.int .i64 k, .int .i64 n, .string s, .slice ao a.length cap], .agg #[.string line, .string it, .slice wo ws.length wcap]] w fun e w'=> e= .returned (.string (Ga (.mk k n s a) line it ws))∧Below w.heap.size w w':=by
 induction d with
 | zero=> intro _ _ _ _ _ _ _ h;exact h.elim
 | succ d ih=>
   intro k n s a ao cap w h hsh hnd hsl
   have HND:=Aa hnd
   clear hnd
   have IH:=Aa ih
   clear ih
   obtain⟨ao',cap',he,hk,hn,hs,ha,hkids⟩:=h
   obtain⟨rfl,rfl⟩:ao=ao'∧cap=cap':=by simp [Mh] at he;exact⟨he.1,he.2⟩
   clear he
   obtain⟨p1,p2,p3,p4,p5,p6⟩:=F6 hsh
   have p4':k≤6:=by simpa using p4
   have hb1:=Ef w k n s ao a.length cap
   have hb2:=Tq (Dj w k n s ao a.length cap) line it wo ws.length wcap
   have hb12:=hb1.trans (hb2.mono hb1.size)
   obtain⟨c0,c1,c2,c3⟩:=Gq w k n s ao a.length cap
   have c0:=cell_later hb2 c0
   have c1:=cell_later hb2 c1
   have c2:=cell_later hb2 c2
   have c3:=cell_later hb2 c3
   obtain⟨r0,r1,r2⟩:=Tr (Dj w k n s ao a.length cap) line it wo ws.length wcap
   have hs1:(Dj w k n s ao a.length cap).heap.size=w.heap.size+1:=by simp
   rw [hs1] at r0 r1 r2
   have hsl2:=hsl.later hb12 (Nat.le_refl _)
   have HE:Hid (Ga (.mk k n s a) line it ws=Anr k n s line it ws (V3 a line it ws)):=by show _=_;rw [Ga]
   have HB:=Aa hb12
   have HK:=Aa (hkids.mono (E':=Ip (Kl (Dj w k n s ao a.length cap) line it wo ws.length wcap) d) (fun x q hq=> hq.later hb12 (Nat.le_refl _)) hb12 (Nat.le_refl _))
   have HSL:=Aa hsl2
   have HN:=fun hk'=> Aa (Am4 p2 hk')
   have P6:=Aa p6
   have P5:=Aa p5
   clear hsh hkids hs1 hb1 hb2 hb12 hsl hsl2 p2 p3 p4 p5 p6
   unfold maxLen at ha hs
   obtain rfl | rfl | rfl | rfl | rfl | rfl:k=1∨k=2∨k=3∨k=4∨k=5∨k=6:=by omega
   ·clear P5 P6 HN IH HK
    go_enter Tryz.func183,Tryz.ntmps183
    go_wp2
    go_ret
    exact⟨by rw [HE.out];rfl,HB.out⟩
   ·clear P5 P6 HN IH HK
    go_enter Tryz.func183,Tryz.ntmps183
    go_wp2
    go_ret
    exact⟨by rw [HE.out];rfl,HB.out⟩
   ·obtain⟨n0,n1⟩:=(HN (.inl rfl)).out
    obtain⟨m,rfl⟩:∃ m:Nat,n=m:=⟨n.toNat,by omega⟩
    clear P5 P6 HN IH HK
    by_cases hlt:m < ws.length
    ·obtain⟨b,off,x,rfl,hbw,hlk,u0⟩:=HSL.out.str hlt
     have HX:Hid (Ga (.mk 3 m s a) line it ws=x):=by
      show _=_
      rw [HE.out]
      show ws.getD (m:Int).toNat ⟨#[]⟩=x
      rw [Int.toNat_natCast,List.getD_eq_getElem?_getD,hlk];rfl
     have f1:(0:Int)≤(m:Int)∧(m:Int) < (ws.length:Int):=by omega
     obtain⟨f1,f2⟩:=f1
     clear hlk HE
     go_enter Tryz.func183,Tryz.ntmps183
     go_wp2
     go_ret
     exact⟨by rw [HX.out];rfl,HB.out⟩
    ·have HX:Hid (Ga (.mk 3 m s a) line it ws=⟨#[]⟩):=by
      show _=_
      rw [HE.out]
      show ws.getD (m:Int).toNat ⟨#[]⟩=_
      rw [Int.toNat_natCast,List.getD_eq_getElem?_getD,List.getElem?_eq_none (by omega)];rfl
     have f2:decide ((m:Int) < (ws.length:Int))=false:=by simp;omega
     clear HE
     go_enter Tryz.func183,Tryz.ntmps183
     go_wp2
     go_ret
     exact⟨by rw [HX.out];rfl,HB.out⟩
   ·clear P5 P6 HN IH HK
    go_enter Tryz.func183,Tryz.ntmps183
    go_wp2
    go_ret
    exact⟨by rw [HE.out];rfl,HB.out⟩
   ·have hl2:a.length=2:=P5.out
    obtain⟨x0,x1,rfl⟩:∃ x0 x1,a= [x0,x1]:=by
     match a,hl2 with
     | [x,y],_=> exact⟨x,y,rfl⟩
    obtain⟨b,off,d',k0,n0,s0,l0,ao0,Ts,rfl,hbs,rfl,hx,hex,g0,g1,g2,g3⟩:=HK.out.kid (i:=0) (by simp)
    obtain⟨b',off',d'',k1,n1,s1,l1,ao1,cap1,eb,hbs',ed,hx',hex',u0,u1,u2,u3⟩:=HK.out.kid (i:=1) (by simp)
    cases eb
    cases ed
    obtain rfl:x0= .mk k0 n0 s0 l0:=by simpa using hx
    obtain rfl:x1= .mk k1 n1 s1 l1:=by simpa using hx'
    have hsh0:Kg (.mk k0 n0 s0 l0) true each=true∧Kg (.mk k1 n1 s1 l1) true each=true:=by
     have:=P6.out
     rw [show Dp 5= [true,true] from rfl,V2,V2] at this
     simp only [Bool.and_eq_true] at this
     exact⟨this.1,this.2.1⟩
    have HV:Hid (Ga (.mk 5 n s [.mk k0 n0 s0 l0, .mk k1 n1 s1 l1]) line it ws=Ga (.mk k0 n0 s0 l0) line it ws++Ga (.mk k1 n1 s1 l1) line it ws):=by
     show _=_
     rw [HE.out];rfl
    have hnk:(Ah.mk k0 n0 s0 l0).nodes≤1000∧(Ah.mk k1 n1 s1 l1).nodes≤1000:=by
     have:=HND.out
     unfold Ah.nodes Ah.Da Ah.Da Ah.Da at this
     omega
    have hz0:=hB.out _ hsh0.1 hnk.1
    have hz1:=hB.out _ hsh0.2 hnk.2
    have I0:=fun w' (bw:Below (Kl (Dj w 5 n s (some ⟨b,off,none⟩) [Ah.mk k0 n0 s0 l0,Ah.mk k1 n1 s1 l1].length cap) line it wo ws.length wcap).heap.size (Kl (Dj w 5 n s (some ⟨b,off,none⟩) [Ah.mk k0 n0 s0 l0,Ah.mk k1 n1 s1 l1].length cap) line it wo ws.length wcap) w')=>
     IH.out k0 n0 s0 l0 ao0 Ts w' (hex.later bw (Nat.le_refl _)) hsh0.1 hnk.1 (HSL.out.later bw (Nat.le_refl _))
    have I1:=fun w' (bw:Below (Kl (Dj w 5 n s (some ⟨b,off,none⟩) [Ah.mk k0 n0 s0 l0,Ah.mk k1 n1 s1 l1].length cap) line it wo ws.length wcap).heap.size (Kl (Dj w 5 n s (some ⟨b,off,none⟩) [Ah.mk k0 n0 s0 l0,Ah.mk k1 n1 s1 l1].length cap) line it wo ws.length wcap) w')=>
     IH.out k1 n1 s1 l1 ao1 cap1 w' (hex'.later bw (Nat.le_refl _)) hsh0.2 hnk.2 (HSL.out.later bw (Nat.le_refl _))
    simp only [Nat.zero_mul,Nat.add_zero,Nat.one_mul] at g0 g1 g2 g3 u0 u1 u2 u3
    simp only [List.length_cons,List.length_nil,Nat.zero_add,Nat.reduceAdd] at g0 g1 g2 g3 u0 u1 u2 u3 c0 c1 c2 c3 r0 r1 r2 I0 I1 HB
    have HI0:=Aa I0
    have HI1:=Aa I1
    generalize Ga (.mk k0 n0 s0 l0) line it ws=xs at *
    generalize Ga (.mk k1 n1 s1 l1) line it ws=ys at *
    have hzz:¬ (9223372036854775807 < xs.size+ys.size):=by omega
    simp only [Kl,Dj] at c3 g0 g1 g2 g3 u0 u1 u2 u3 r0 r1 r2 HI0 HI1 HB
    clear hnk hx hx' hex hex' hsh0 P5 P6 HN IH HK HE I0 I1 hl2 HSL hbs hbs'
    go_enter Tryz.func183,Tryz.ntmps183
    go_upto_region 12 with (fail)
    generalize (w.alloc (.cells #[.int .i64 5, .int .i64 n, .string s, .slice (some ⟨b,off,none⟩) 2 cap] 191)).alloc (.cells #[.string line, .string it, .slice wo ws.length wcap] 246)=W2 at *
    clear c0 c1 c2
    have hwf:Below W2.heap.size W2 W2.drew:=(Below.refl _ _).drew
    go_region_held3 (fun w'=> Below W2.heap.size W2 w'∧w'.cell? ⟨w.heap.size,3,none⟩=some (.slice (some ⟨b,off,none⟩) 2 cap)∧w'.cell? ⟨b,off,none⟩=some (.int .i64 k0)∧w'.cell? ⟨b,off+1,none⟩=some (.int .i64 n0)∧w'.cell? ⟨b,off+2,none⟩=some (.string s0)∧w'.cell? ⟨b,off+3,none⟩=some (.slice ao0 l0.length Ts)∧w'.cell? ⟨b,off+4,none⟩=some (.int .i64 k1)∧w'.cell? ⟨b,off+4+1,none⟩=some (.int .i64 n1)∧w'.cell? ⟨b,off+4+2,none⟩=some (.string s1)∧w'.cell? ⟨b,off+4+3,none⟩=some (.slice ao1 l1.length cap1)∧w'.cell? ⟨w.heap.size+1,0,none⟩=some (.string line)∧w'.cell? ⟨w.heap.size+1,1,none⟩=some (.string it)∧w'.cell? ⟨w.heap.size+1,2,none⟩=some (.slice wo ws.length wcap))
     (first
      | exact⟨hwf,c3,g0,g1,g2,g3,u0,u1,u2,u3,r0,r1,r2⟩
      | (have h:=(by assumption:Below W2.heap.size W2 _∧_∧_);exact⟨h.1.trans (b3.mono h.1.size),cell_later b3 h.2.1,cell_later b3 h.2.2.1,cell_later b3 h.2.2.2.1,cell_later b3 h.2.2.2.2.1,cell_later b3 h.2.2.2.2.2.1,cell_later b3 h.2.2.2.2.2.2.1,cell_later b3 h.2.2.2.2.2.2.2.1,cell_later b3 h.2.2.2.2.2.2.2.2.1,cell_later b3 h.2.2.2.2.2.2.2.2.2.1,cell_later b3 h.2.2.2.2.2.2.2.2.2.2.1,cell_later b3 h.2.2.2.2.2.2.2.2.2.2.2.1,cell_later b3 h.2.2.2.2.2.2.2.2.2.2.2.2⟩)
      | go_keep)
     (first
      | (go_at_call_of 183 (Value.agg #[Value.int IntKind.i64 k0,Value.int IntKind.i64 n0,Value.string s0,Value.slice ao0 l0.length Ts]);have h:=(by assumption:Below W2.heap.size W2 _∧_∧_);refine(HI0.out _ h.1).mono ?_;clear h;rintro e w3 ⟨rfl,b3⟩)
      | (go_at_call_of 183 (Value.agg #[Value.int IntKind.i64 k1,Value.int IntKind.i64 n1,Value.string s1,Value.slice ao1 l1.length cap1]);have h:=(by assumption:Below W2.heap.size W2 _∧_∧_);refine(HI1.out _ h.1).mono ?_;clear h;rintro e w3 ⟨rfl,b3⟩))
    all_goals
     have h:=(by assumption:Below W2.heap.size W2 _∧_∧_)
     have HBE:=Aa (HB.out.trans (h.1.mono HB.out.size))
     clear h
     go_wp2
     go_ret
     exact⟨by rw [HV.out];rfl,HBE.out⟩
   ·obtain⟨n0,n1⟩:=(HN (.inr rfl)).out
    obtain⟨m,rfl⟩:∃ m:Nat,n=m:=⟨n.toNat,by omega⟩
    have hl1:a.length=1:=P5.out
    obtain⟨x0,rfl⟩:∃ x0,a= [x0]:=by
     match a,hl1 with
     | [x],_=> exact⟨x,rfl⟩
    obtain⟨b,off,d',k',n',s',l',ao',cap',rfl,hbs,rfl,hx,hex,g0,g1,g2,g3⟩:=HK.out.kid (i:=0) (by simp)
    obtain rfl:x0= .mk k' n' s' l':=by simpa using hx
    have hsh0:Kg (.mk k' n' s' l') true each=true:=by
     have:=P6.out
     rw [show Dp 6= [true] from rfl,V2] at this
     simp only [Bool.and_eq_true] at this
     exact this.1
    have hbd:Below w.heap.size w ((Kl (Dj w 6 m s (some ⟨b,off,none⟩) [Ah.mk k' n' s' l'].length cap) line it wo ws.length wcap).drew):=HB.out.drew
    have HX:=Aa (IH.out k' n' s' l' ao' cap' ((Kl (Dj w 6 m s (some ⟨b,off,none⟩) [Ah.mk k' n' s' l'].length cap) line it wo ws.length wcap).drew) (hex.later ((Below.refl _ _).drew) (Nat.le_refl _)) hsh0 (by have:=HND.out;unfold Ah.nodes Ah.Da Ah.Da at this;omega) (HSL.out.later ((Below.refl _ _).drew) (Nat.le_refl _)))
    have HV:Hid (Ga (.mk 6 m s [.mk k' n' s' l']) line it ws=(Ga (.mk k' n' s' l') line it ws).extract 0 (min m (Ga (.mk k' n' s' l') line it ws).size)):=by
     show _=_
     rw [HE.out];rfl
    simp only [Nat.zero_mul,Nat.add_zero] at g0 g1 g2 g3
    have HBD:=Aa hbd
    clear hx hex hsh0 hbd P5 P6 HN IH HK HE
    simp only [List.length_cons,List.length_nil,Nat.zero_add] at g0 g1 g2 g3 c0 c1 c2 c3 r0 r1 r2 HX HBD
    generalize Ga (.mk k' n' s' l') line it ws=xs at *
    go_enter Tryz.func183,Tryz.ntmps183
    go_upto_region 14 with (fail)
    refine Bm 5 (by kernel_rfl) (by kernel_rfl) ?_
    simp only [List.take_succ_cons,List.take_zero,List.drop_succ_cons,List.drop_zero]
    iterate 5 still_step
    refine wpStill_nil ?_
    go_wp2_with fail
    refine HX.out.mono ?_
    rintro e w3 ⟨rfl,b3⟩
    have HB3:=Aa (HBD.out.trans (b3.mono HBD.out.size))
    have q1:w3.cell? ⟨w.heap.size,1,none⟩=some (.int .i64 m):=cell_later b3 c1
    clear HX b3
    go_wp2
    go_ret
    refine⟨?_,HB3.out⟩
    rw [HV.out]
    show Ending.returned (.string (xs.extract 0 (min (m:Int) (xs.size:Int)).toNat))=_
    rw [show(min (m:Int) (xs.size:Int)).toNat=min m xs.size by omega]
end Go.Proofs.YtbibeionenjmfaaGreatDoor
namespace Go.Proofs.YtbibeionenjmfaaGreatDoor
open Go.RowKit Go.ChangeShapes Go.WideShapes Go.ChangeAt
def Ao1 (k n:Int) (ws xs:List ByteArray) (is:List Int):Int:=
 if k=7 then n else if k=8 then((xs.getD 0 ⟨#[]⟩).size:Int) else if k=9 then(ws.length:Int) else if k=10 then IntKind.i64.wrap (is.getD 0 0+is.getD 1 0) else 0
mutual
def Kd:Ah→ByteArray→ByteArray→List ByteArray→Int
 | .mk k n _ a,line,it,ws=> Ao1 k n ws (V3 a line it ws) (Ao2 a line it ws)
def Ao2:List Ah→ByteArray→ByteArray→List ByteArray→List Int
 | [],_,_,_=> []
 | x::r,line,it,ws=> Kd x line it ws::Ao2 r line it ws
end
set_option maxRecDepth 100000 in
set_option maxHeartbeats 1000000 in
theorem Al1 (line it:ByteArray) (wo:Option Addr) (wcap:Nat) (ws:List ByteArray) (each:Bool) (hws:ws.length≤1000) (hB:Hid (∀ e:Ah,Kg e true each=true→e.nodes≤1000→(Ga e line it ws).size≤1000000)) (d:Nat):∀ (k n:Int) (s:ByteArray) (a:List Ah) (ao:Option Addr) (cap:Nat) (w:World),Ip w d (.mk k n s a) (Mh k n s ao a.length cap)→
 Kg (.mk k n s a) false each=true→(Ah.mk k n s a).nodes≤1000→Sl 1 Cm w wo ws→
 Calls Tryz.prog 185 #[.agg #[.int .i64 k, .int .i64 n, .string s, .slice ao a.length cap], .agg #[.string line, .string it, .slice wo ws.length wcap]] w fun e w'=> e= .returned (.int .i64 (Kd (.mk k n s a) line it ws))∧Below w.heap.size w w':=by
 induction d with
 | zero=> intro _ _ _ _ _ _ _ h;exact h.elim
 | succ d ih=>
   intro k n s a ao cap w h hsh hnd hsl
   have HND:=Aa hnd
   clear hnd
   have IH:=Aa ih
   clear ih
   have hstr:=Ae7 line it wo wcap ws each hws hB d
   have HSTR:=Aa hstr
   clear hstr
   obtain⟨ao',cap',he,hk,hn,hs,ha,hkids⟩:=h
   obtain⟨rfl,rfl⟩:ao=ao'∧cap=cap':=by simp [Mh] at he;exact⟨he.1,he.2⟩
   clear he
   obtain⟨p1,p2,p3,p4,p5,p6⟩:=F6 hsh
   have p4':7≤k:=by have:¬ k≤6:=by simpa using p4
                    omega
   have hb1:=Ef w k n s ao a.length cap
   have hb2:=Tq (Dj w k n s ao a.length cap) line it wo ws.length wcap
   have hb12:=hb1.trans (hb2.mono hb1.size)
   obtain⟨c0,c1,c2,c3⟩:=Gq w k n s ao a.length cap
   have c0:=cell_later hb2 c0
   have c1:=cell_later hb2 c1
   have c2:=cell_later hb2 c2
   have c3:=cell_later hb2 c3
   obtain⟨r0,r1,r2⟩:=Tr (Dj w k n s ao a.length cap) line it wo ws.length wcap
   have hs1:(Dj w k n s ao a.length cap).heap.size=w.heap.size+1:=by simp
   rw [hs1] at r0 r1 r2
   have hsl2:=hsl.later hb12 (Nat.le_refl _)
   have HE:Hid (Kd (.mk k n s a) line it ws=Ao1 k n ws (V3 a line it ws) (Ao2 a line it ws)):=by show _=_;rw [Kd]
   have HB:=Aa hb12
   have HK:=Aa (hkids.mono (E':=Ip (Kl (Dj w k n s ao a.length cap) line it wo ws.length wcap) d) (fun x q hq=> hq.later hb12 (Nat.le_refl _)) hb12 (Nat.le_refl _))
   have HSL:=Aa hsl2
   have P6:=Aa p6
   have P5:=Aa p5
   clear hsh hkids hs1 hb1 hb2 hb12 hsl hsl2 p2 p3 p4 p5 p6
   unfold maxLen at ha hs
   obtain rfl | rfl | rfl | rfl:k=7∨k=8∨k=9∨k=10:=by omega
   ·clear P5 P6 HSTR IH HK
    go_enter Tryz.func185,Tryz.ntmps185
    go_wp2
    go_ret
    exact⟨by rw [HE.out];rfl,HB.out⟩
   ·have hl1:a.length=1:=P5.out
    obtain⟨x0,rfl⟩:∃ x0,a= [x0]:=by
     match a,hl1 with
     | [x],_=> exact⟨x,rfl⟩
    obtain⟨b,off,d',k',n',s',l',ao',cap',rfl,hbs,rfl,hx,hex,g0,g1,g2,g3⟩:=HK.out.kid (i:=0) (by simp)
    obtain rfl:x0= .mk k' n' s' l':=by simpa using hx
    have hsh0:Kg (.mk k' n' s' l') true each=true:=by
     have:=P6.out
     rw [show Dp 8= [true] from rfl,V2] at this
     simp only [Bool.and_eq_true] at this
     exact this.1
    have hbd:Below w.heap.size w ((Kl (Dj w 8 n s (some ⟨b,off,none⟩) [Ah.mk k' n' s' l'].length cap) line it wo ws.length wcap).drew):=HB.out.drew
    have HX:=Aa (HSTR.out k' n' s' l' ao' cap' ((Kl (Dj w 8 n s (some ⟨b,off,none⟩) [Ah.mk k' n' s' l'].length cap) line it wo ws.length wcap).drew) (hex.later ((Below.refl _ _).drew) (Nat.le_refl _)) hsh0 (by have:=HND.out;unfold Ah.nodes Ah.Da Ah.Da at this;omega) (HSL.out.later ((Below.refl _ _).drew) (Nat.le_refl _)))
    have HV:Hid (Kd (.mk 8 n s [.mk k' n' s' l']) line it ws=((Ga (.mk k' n' s' l') line it ws).size:Int)):=by
     show _=_
     rw [HE.out];rfl
    have hz:=hB.out _ hsh0 (by have:=HND.out;unfold Ah.nodes Ah.Da Ah.Da at this;omega)
    simp only [Nat.zero_mul,Nat.add_zero] at g0 g1 g2 g3
    have HBD:=Aa hbd
    clear hx hex hsh0 hbd P5 P6 HSTR IH HK HE
    simp only [List.length_cons,List.length_nil,Nat.zero_add] at g0 g1 g2 g3 c0 c1 c2 c3 r0 r1 r2 HX HBD
    generalize Ga (.mk k' n' s' l') line it ws=xs at *
    go_enter Tryz.func185,Tryz.ntmps185
    go_upto_region 5 with (fail)
    refine Bm 5 (by kernel_rfl) (by kernel_rfl) ?_
    simp only [List.take_succ_cons,List.take_zero,List.drop_succ_cons,List.drop_zero]
    iterate 5 still_step
    refine wpStill_nil ?_
    go_wp2_with fail
    refine HX.out.mono ?_
    rintro e w3 ⟨rfl,b3⟩
    have HB3:=Aa (HBD.out.trans (b3.mono HBD.out.size))
    clear HX b3
    go_wp2
    go_ret
    exact⟨by rw [HV.out];rfl,HB3.out⟩
   ·clear P5 P6 HSTR IH HK
    go_enter Tryz.func185,Tryz.ntmps185
    go_wp2
    go_ret
    exact⟨by rw [HE.out];rfl,HB.out⟩
   ·have hl2:a.length=2:=P5.out
    obtain⟨x0,x1,rfl⟩:∃ x0 x1,a= [x0,x1]:=by
     match a,hl2 with
     | [x,y],_=> exact⟨x,y,rfl⟩
    obtain⟨b,off,d',k0,n0,s0,l0,ao0,Ts,rfl,hbs,rfl,hx,hex,g0,g1,g2,g3⟩:=HK.out.kid (i:=0) (by simp)
    obtain⟨b',off',d'',k1,n1,s1,l1,ao1,cap1,eb,hbs',ed,hx',hex',u0,u1,u2,u3⟩:=HK.out.kid (i:=1) (by simp)
    cases eb
    cases ed
    obtain rfl:x0= .mk k0 n0 s0 l0:=by simpa using hx
    obtain rfl:x1= .mk k1 n1 s1 l1:=by simpa using hx'
    have hsh0:Kg (.mk k0 n0 s0 l0) false each=true∧Kg (.mk k1 n1 s1 l1) false each=true:=by
     have:=P6.out
     rw [show Dp 10= [false,false] from rfl,V2,V2] at this
     simp only [Bool.and_eq_true] at this
     exact⟨this.1,this.2.1⟩
    have HV:Hid (Kd (.mk 10 n s [.mk k0 n0 s0 l0, .mk k1 n1 s1 l1]) line it ws=IntKind.i64.wrap (Kd (.mk k0 n0 s0 l0) line it ws+Kd (.mk k1 n1 s1 l1) line it ws)):=by
     show _=_
     rw [HE.out];rfl
    have hnk:(Ah.mk k0 n0 s0 l0).nodes≤1000∧(Ah.mk k1 n1 s1 l1).nodes≤1000:=by
     have:=HND.out
     unfold Ah.nodes Ah.Da Ah.Da Ah.Da at this
     omega
    have I0:=fun w' (bw:Below (Kl (Dj w 10 n s (some ⟨b,off,none⟩) [Ah.mk k0 n0 s0 l0,Ah.mk k1 n1 s1 l1].length cap) line it wo ws.length wcap).heap.size (Kl (Dj w 10 n s (some ⟨b,off,none⟩) [Ah.mk k0 n0 s0 l0,Ah.mk k1 n1 s1 l1].length cap) line it wo ws.length wcap) w')=>
     IH.out k0 n0 s0 l0 ao0 Ts w' (hex.later bw (Nat.le_refl _)) hsh0.1 hnk.1 (HSL.out.later bw (Nat.le_refl _))
    have I1:=fun w' (bw:Below (Kl (Dj w 10 n s (some ⟨b,off,none⟩) [Ah.mk k0 n0 s0 l0,Ah.mk k1 n1 s1 l1].length cap) line it wo ws.length wcap).heap.size (Kl (Dj w 10 n s (some ⟨b,off,none⟩) [Ah.mk k0 n0 s0 l0,Ah.mk k1 n1 s1 l1].length cap) line it wo ws.length wcap) w')=>
     IH.out k1 n1 s1 l1 ao1 cap1 w' (hex'.later bw (Nat.le_refl _)) hsh0.2 hnk.2 (HSL.out.later bw (Nat.le_refl _))
    simp only [Nat.zero_mul,Nat.add_zero,Nat.one_mul] at g0 g1 g2 g3 u0 u1 u2 u3
    simp only [List.length_cons,List.length_nil,Nat.zero_add,Nat.reduceAdd] at g0 g1 g2 g3 u0 u1 u2 u3 c0 c1 c2 c3 r0 r1 r2 I0 I1 HB
    have HI0:=Aa I0
    have HI1:=Aa I1
    generalize Kd (.mk k0 n0 s0 l0) line it ws=xs at *
    generalize Kd (.mk k1 n1 s1 l1) line it ws=ys at *
    simp only [Kl,Dj] at c3 g0 g1 g2 g3 u0 u1 u2 u3 r0 r1 r2 HI0 HI1 HB
    clear hnk hx hx' hex hex' hsh0 P5 P6 HSTR IH HK HE I0 I1 hl2 HSL hbs hbs'
    go_enter Tryz.func185,Tryz.ntmps185
    go_upto_region 9 with (fail)
    generalize (w.alloc (.cells #[.int .i64 10, .int .i64 n, .string s, .slice (some ⟨b,off,none⟩) 2 cap] 191)).alloc (.cells #[.string line, .string it, .slice wo ws.length wcap] 246)=W2 at *
    clear c0 c1 c2
    have hwf:Below W2.heap.size W2 W2.drew:=(Below.refl _ _).drew
    go_region_held3 (fun w'=> Below W2.heap.size W2 w'∧w'.cell? ⟨w.heap.size,3,none⟩=some (.slice (some ⟨b,off,none⟩) 2 cap)∧w'.cell? ⟨b,off,none⟩=some (.int .i64 k0)∧w'.cell? ⟨b,off+1,none⟩=some (.int .i64 n0)∧w'.cell? ⟨b,off+2,none⟩=some (.string s0)∧w'.cell? ⟨b,off+3,none⟩=some (.slice ao0 l0.length Ts)∧w'.cell? ⟨b,off+4,none⟩=some (.int .i64 k1)∧w'.cell? ⟨b,off+4+1,none⟩=some (.int .i64 n1)∧w'.cell? ⟨b,off+4+2,none⟩=some (.string s1)∧w'.cell? ⟨b,off+4+3,none⟩=some (.slice ao1 l1.length cap1)∧w'.cell? ⟨w.heap.size+1,0,none⟩=some (.string line)∧w'.cell? ⟨w.heap.size+1,1,none⟩=some (.string it)∧w'.cell? ⟨w.heap.size+1,2,none⟩=some (.slice wo ws.length wcap))
     (first
      | exact⟨hwf,c3,g0,g1,g2,g3,u0,u1,u2,u3,r0,r1,r2⟩
      | (have h:=(by assumption:Below W2.heap.size W2 _∧_∧_);exact⟨h.1.trans (b3.mono h.1.size),cell_later b3 h.2.1,cell_later b3 h.2.2.1,cell_later b3 h.2.2.2.1,cell_later b3 h.2.2.2.2.1,cell_later b3 h.2.2.2.2.2.1,cell_later b3 h.2.2.2.2.2.2.1,cell_later b3 h.2.2.2.2.2.2.2.1,cell_later b3 h.2.2.2.2.2.2.2.2.1,cell_later b3 h.2.2.2.2.2.2.2.2.2.1,cell_later b3 h.2.2.2.2.2.2.2.2.2.2.1,cell_later b3 h.2.2.2.2.2.2.2.2.2.2.2.1,cell_later b3 h.2.2.2.2.2.2.2.2.2.2.2.2⟩)
      | go_keep)
     (first
      | (go_at_call_of 185 (Value.agg #[Value.int IntKind.i64 k0,Value.int IntKind.i64 n0,Value.string s0,Value.slice ao0 l0.length Ts]);have h:=(by assumption:Below W2.heap.size W2 _∧_∧_);refine(HI0.out _ h.1).mono ?_;clear h;rintro e w3 ⟨rfl,b3⟩)
      | (go_at_call_of 185 (Value.agg #[Value.int IntKind.i64 k1,Value.int IntKind.i64 n1,Value.string s1,Value.slice ao1 l1.length cap1]);have h:=(by assumption:Below W2.heap.size W2 _∧_∧_);refine(HI1.out _ h.1).mono ?_;clear h;rintro e w3 ⟨rfl,b3⟩))
    all_goals
     have h:=(by assumption:Below W2.heap.size W2 _∧_∧_)
     have HBE:=Aa (HB.out.trans (h.1.mono HB.out.size))
     clear h
     go_wp2
     go_ret
     exact⟨by rw [HV.out];rfl,HBE.out⟩
end Go.Proofs.YtbibeionenjmfaaGreatDoor
namespace Go.Proofs.YtbibeionenjmfaaGreatDoor
open Go.RowKit
structure Aw where
 each:Bool
 Bc:Int
 cond:Ah
 C1:ByteArray
 key:Ah
 val:Ah
def I4 (k:ByteArray):ByteArray:=k.extract 0 (min k.size 20)
def ifR (r:Aw) (line it:ByteArray) (ws:List ByteArray):Bool:=r.Bc ==0 || (decide (Ga r.cond line it ws=r.C1) ==decide (r.Bc=1))
def Ux (r:Aw) (kind:Int) (line it:ByteArray) (ws:List ByteArray):Pr:=(I4 (Ga r.key line it ws),first kind (Kd r.val line it ws))
def Jc (r:Aw) (kind:Int) (line:ByteArray) (ws:List ByteArray) (it:ByteArray):Option Pr:=if ifR r line it ws=true then some (Ux r kind line it ws) else none
def Yr (r:Aw) (ws:List ByteArray):List ByteArray:=if r.each=true then ws else [⟨#[]⟩]
def Oo (r:Aw) (kind:Int) (line:ByteArray):List Pr:=(Yr r (A7 line)).filterMap (Jc r kind line (A7 line))
def Fm (rs:List Aw) (kind:Int) (line:ByteArray):List Pr:=rs.flatMap fun r=> Oo r kind line
theorem Abp {rs:List Aw} {i:Nat} {r:Aw} (kind:Int) (line:ByteArray) (h:rs[i]?=some r):Fm (rs.take (i+1)) kind line=Fm (rs.take i) kind line++Oo r kind line:=by
 obtain⟨hlt,hx⟩:=List.getElem?_eq_some_iff.1 h
 unfold Fm
 rw [List.take_succ_eq_append_getElem hlt,hx,List.flatMap_append]
 simp
theorem Akc (r:Aw) (ws:List ByteArray):(Yr r ws).length≤ws.length+1:=by
 unfold Yr
 split
 ·omega
 ·simp
theorem Uy (r:Aw) (kind:Int) (line:ByteArray):(Oo r kind line).length≤(A7 line).length+1:=
 Nat.le_trans (List.length_filterMap_le _ _) (Akc r _)
end Go.Proofs.YtbibeionenjmfaaGreatDoor
namespace Go.Proofs.YtbibeionenjmfaaGreatDoor
open Go.RowKit
def Tp:Ah→Bool
 | .mk k n s a=> (k ==0) && ((n ==0) && (s.toList.isEmpty && a.isEmpty))
def C6 (r:Aw):Int:=
 if r.Bc=0 then(if r.C1.toList.isEmpty=true∧Tp r.cond=true then 0 else 3)
 else if r.Bc=1∨r.Bc=2 then(if r.C1.size≤20∧decide (0≤Lib.indexByte r.C1.data.toList 10)=false then C2 r.cond true r.each else 3)
 else 3
def Cj (r:Aw):Int:=
 if C6 r≠0 then C6 r else if C2 r.key true r.each≠0 then C2 r.key true r.each else C2 r.val false r.each
def Ii:List Aw→Int
 | []=> 0
 | r::l=> if Cj r≠0 then Cj r else Ii l
def Dv (rs:List Aw) (fold slices:Int):Int:=
 if rs.length < 1∨4 < rs.length then 2 else if fold < 1∨4 < fold then 3 else if slices < 1∨4 < slices then 1 else Ii rs
theorem Abx {l:List Aw} {i:Nat} {r:Aw} (h:l[i]?=some r):Ii (l.drop i)=if Cj r≠0 then Cj r else Ii (l.drop (i+1)):=by
 obtain⟨hlt,hx⟩:=List.getElem?_eq_some_iff.1 h
 rw [List.drop_eq_getElem_cons hlt,hx]
 rfl
theorem Oq:∀ {l:List Aw},Ii l=0→∀ r∈l,Cj r=0
 | [],_,r,hr=> by cases hr
 | a::l,h,r,hr=> by
   unfold Ii at h
   split at h
   ·rename_i h2;exact absurd h h2
   ·rename_i h2
    rcases List.mem_cons.1 hr with rfl | hr
    ·exact Classical.not_not.1 h2
    ·exact Oq h r hr
theorem T1 {e:Ah} {text each:Bool} (h:C2 e text each=0):e.nodes≤30∧e.deep≤5∧Kg e text each=true:=by
 unfold C2 at h
 split at h
 ·cases h
 ·rename_i h1
  split at h
  ·rename_i h2;exact⟨by omega,by omega,h2⟩
  ·cases h
structure Gz (r:Aw):Prop where
 key:r.key.nodes≤30∧r.key.deep≤5∧Kg r.key true r.each=true
 val:r.val.nodes≤30∧r.val.deep≤5∧Kg r.val false r.each=true
 cond:r.Bc≠0→r.cond.nodes≤30∧r.cond.deep≤5∧Kg r.cond true r.each=true
 whn:r.Bc=0∨r.Bc=1∨r.Bc=2
 C1:r.C1.size≤20
theorem Gz.of {r:Aw} (h:Cj r=0):Gz r:=by
 unfold Cj at h
 split at h
 ·rename_i h2;exact absurd h h2
 ·rename_i h1
  split at h
  ·rename_i h2;exact absurd h h2
  ·rename_i h2
   have hc:C6 r=0:=Classical.not_not.1 h1
   have hk:C2 r.key true r.each=0:=Classical.not_not.1 h2
   refine⟨T1 hk,T1 h,fun hw=> ?_,?_,?_⟩
   ·unfold C6 at hc
    rw [if_neg hw] at hc
    split at hc
    ·split at hc
     ·exact T1 hc
     ·cases hc
    ·cases hc
   ·unfold C6 at hc
    split at hc
    ·left;assumption
    ·split at hc
     ·right;assumption
     ·cases hc
   ·unfold C6 at hc
    split at hc
    ·split at hc
     ·rename_i h3
      have h4:r.C1.toList= []:=List.isEmpty_iff.1 h3.1
      have h5:r.C1.size=r.C1.toList.length:=by rw [tl,Fw]
      rw [h5,h4];exact Nat.zero_le _
     ·cases hc
    ·split at hc
     ·split at hc
      ·rename_i h3;exact h3.1
      ·cases hc
     ·cases hc
theorem Lo {rs:List Aw} {fold slices:Int} (h:Dv rs fold slices=0):(1≤rs.length∧rs.length≤4)∧(1≤fold∧fold≤4)∧(1≤slices∧slices≤4)∧∀ r∈rs,Cj r=0:=by
 unfold Dv at h
 split at h
 ·cases h
 ·split at h
  ·cases h
  ·split at h
   ·cases h
   ·exact⟨by omega,by omega,by omega,Oq h⟩
end Go.Proofs.YtbibeionenjmfaaGreatDoor
