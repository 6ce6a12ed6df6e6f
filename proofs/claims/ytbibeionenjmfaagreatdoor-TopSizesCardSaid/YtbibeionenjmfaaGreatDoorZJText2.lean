/- The text of an expression: job.text. -/
import Derived.Test.YtbibeionenjmfaaGreatDoorZJRead
import Derived.Test.YtbibeionenjmfaaGreatDoorZHeldC
import Derived.Test.YtbibeionenjmfaaGreatDoorZFolder
set_option linter.unusedSimpArgs false
set_option linter.unusedVariables false
namespace Go.Proofs.YtbibeionenjmfaaGreatDoor
open Go.RowKit
theorem Y7 {c:UInt8} (new:List UInt8):∀ (n:Nat) (l:List UInt8),l.length≤n→Lib.replaceK [c] new (Lib.count l [c]) l=l.flatMap fun b=> if b=c then new else [b]:=by
 intro n
 induction n with
 | zero=>
   intro l hl
   have:l= []:=List.length_eq_zero_iff.1 (by omega)
   subst this
   rw [Lib.count_miss (Ml (by simp))];rfl
 | succ n ih=>
   intro l hl
   have plain:∀ A:List UInt8,c ∉ A→(A.flatMap fun b=> if b=c then new else [b])=A:=by
    intro A
    induction A with
    | nil=> intro _;rfl
    | cons b A ih2=>
      intro h
      rw [List.mem_cons,not_or] at h
      rw [List.flatMap_cons,ih2 h.2,if_neg (fun e=> h.1 e.symm)];rfl
   rcases Ge c l with h | ⟨A,B,rfl,hA⟩
   ·rw [Lib.count_miss (Ml h),plain l h];rfl
   ·have hi:=Qr (B:=B) hA
    rw [Lib.count_hit (by simp) hi,Nat.add_comm,Lib.replaceK_hit _ _ _ _ _ hi]
    have e1:(A++c::B).take A.length=A:=by simp
    have e2:(A++c::B).drop (A.length+ [c].length)=B:=by simp
    rw [e1,e2,ih B (by simp at hl;omega),List.flatMap_append,plain A hA,List.flatMap_cons,if_pos rfl]
    simp
theorem U3 {c:UInt8} {new:List UInt8} (h: [c]≠new) (l:List UInt8):Lib.replaceAll l [c] new=l.flatMap fun b=> if b=c then new else [b]:=by
 unfold Lib.replaceAll Lib.replace
 rw [if_neg (by simpa using h)]
 have e:Lib.replaceNum l [c] (-1)=Lib.count l [c]:=by unfold Lib.replaceNum;rw [if_pos (.inl (by decide))]
 rw [e]
 exact Y7 new _ l (Nat.le_refl _)
theorem Aj1 (l:List UInt8):((l.flatMap fun b=> if b=92 then [92,92] else [b]).flatMap fun b=> if b=34 then [92,34] else [b])=I8 l:=by
 induction l with
 | nil=> rfl
 | cons b l ih=>
   have e:I8 (b::l)=(if b=34∨b=92 then [92,b] else [b])++I8 l:=rfl
   rw [List.flatMap_cons,List.flatMap_append,ih,e]
   congr 1
   by_cases h1:b=92
   ·subst h1;decide
   ·by_cases h2:b=34
    ·subst h2;decide
    ·simp [h1,h2]
theorem Pc (l:List UInt8):(I8 l).length≤2 * l.length:=by
 induction l with
 | nil=> simp [I8]
 | cons b l ih=>
   have e:I8 (b::l)=(if b=34∨b=92 then [92,b] else [b])++I8 l:=rfl
   rw [e,List.length_append,List.length_cons]
   split <;> simp <;> omega
theorem Aj0 (l:List UInt8):(l.flatMap fun b=> if b=(92:UInt8) then [92,92] else [b]).length≤2 * l.length:=by
 induction l with
 | nil=> simp
 | cons b l ih=>
   rw [List.flatMap_cons,List.length_append,List.length_cons]
   split <;> simp only [List.length_cons,List.length_nil] <;> omega
theorem countB_le {c:UInt8} (s:ByteArray):Lib.countB s ⟨#[c]⟩≤s.size:=by
 have:=Lib.countB_mul_le ⟨#[c]⟩ (Nat.le_refl 1) s.size s (Nat.le_refl _)
 have e:(⟨#[c]⟩:ByteArray).size=1:=rfl
 rw [e] at this;omega
theorem Rk (s:ByteArray) (c:UInt8) (n1 n2:UInt8) (w:World) (hg:GM w) (hs:s.size≤1000000):
 Calls Tryz.prog 173 #[.string s, .string ⟨#[c]⟩, .string ⟨#[n1,n2]⟩] w fun e w'=> e= .returned (.string (tx (s.data.toList.flatMap fun b=> if b=c then [n1,n2] else [b])))∧Below w.heap.size w w':=by
 obtain⟨m,hm⟩:=hg
 have h2:(⟨#[n1,n2]⟩:ByteArray).size=2:=rfl
 refine(Tryz.strings_ReplaceAll s ⟨#[c]⟩ ⟨#[n1,n2]⟩ m w (by omega) hm (Nat.le_refl 1) (by have:=countB_le (c:=c) s;rw [h2];omega)).mono ?_
 rintro e w' ⟨rfl,hb⟩
 refine⟨?_,hb⟩
 have e1:(⟨#[c]⟩:ByteArray).data.toList= [c]:=rfl
 have e2:(⟨#[n1,n2]⟩:ByteArray).data.toList= [n1,n2]:=rfl
 rw [e1,e2,U3 (by simp)]
 rfl
set_option maxRecDepth 100000 in
set_option maxHeartbeats 1000000 in
theorem Xr (s:ByteArray) (w:World) (hg:GM w) (hs:s.size≤100000):
 Calls Tryz.prog 141 #[.string s] w fun e w'=> e= .returned (.string (tx (B4 s.data.toList)))∧Below w.heap.size w w':=by
 have H1:=Aa (Rk s 92 92 92 w hg (by omega))
 have HL:Hid ((tx (s.data.toList.flatMap fun b=> if b=(92:UInt8) then [92,92] else [b])).size≤200000):=by
  show _≤_
  rw [Am];have:=Aj0 s.data.toList;rw [Fw] at this;omega
 have H2:=Aa fun w' (hb:Below w.heap.size w w')=> Rk (tx (s.data.toList.flatMap fun b=> if b=(92:UInt8) then [92,92] else [b])) 34 92 34 w' (hg.later hb (Nat.le_refl _)) (by have:=HL.out;omega)
 rw [Ap,Aj1] at H2
 have HQ:Hid ((⟨#[34]⟩++tx (I8 s.data.toList))++⟨#[34]⟩=tx (B4 s.data.toList)):=by
  show _=_
  apply Dc
  rw [tl,tl,Ap]
  simp [tx,ByteArray.data_append,B4]
 have hE:(tx (I8 s.data.toList)).size≤200000:=by rw [Am];have:=Pc s.data.toList;rw [Fw] at this;omega
 generalize tx (s.data.toList.flatMap fun b=> if b=(92:UInt8) then [92,92] else [b])=A at *
 generalize tx (I8 s.data.toList)=B at *
 have n1:¬ 9223372036854775807 < 1+B.size:=by omega
 have n2:¬ 9223372036854775807 < 1+B.size+1:=by omega
 clear hg hs
 go_enter Tryz.func141,Tryz.ntmps141
 go_wp2_with fail
 refine H1.out.mono ?_
 rintro e w1 ⟨rfl,b1⟩
 have HB1:=Aa b1
 clear b1
 go_wp2_with fail
 refine(H2.out _ HB1.out).mono ?_
 rintro e w2 ⟨rfl,b2⟩
 have HB2:=Aa (HB1.out.trans (b2.mono HB1.out.size))
 clear b2
 go_wp2
 go_ret
 exact⟨by rw [←HQ.out];rfl,HB2.out⟩
end Go.Proofs.YtbibeionenjmfaaGreatDoor
namespace Go.Proofs.YtbibeionenjmfaaGreatDoor
open Go.RowKit
theorem Xk (k:Int):(A8 k).length≤4:=by
 unfold A8
 (repeat' split) <;> simp only [List.length_cons,List.length_nil] <;> omega
theorem Ox:∀ (l m:List Ah),A2 (l++m)=A2 l++A2 m
 | [],m=> by simp [A2]
 | x::l,m=> by rw [List.cons_append,A2,A2,Ox l m];simp
theorem M7 {a:List Ah} {j:Nat} {x:Ah} (h:a[j]?=some x):A2 (a.take (j+1))=A2 (a.take j)++32::Az x:=by
 obtain⟨hlt,hx⟩:=List.getElem?_eq_some_iff.1 h
 rw [List.take_succ_eq_append_getElem hlt,hx,Ox]
 simp [A2]
theorem Uq:∀ {l:List Ah} {x:Ah},x∈l→x.nodes≤Ah.Da l
 | [],_,h=> by cases h
 | y::l,x,h=> by
   rw [Ah.Da]
   rcases List.mem_cons.1 h with rfl | h
   ·omega
   ·have:=Uq h;omega
mutual
theorem K8:∀ (e:Ah) (text each:Bool),Kg e text each=true→(Az e).length+1≤101 * e.nodes
 | .mk k n s a,text,each,h=> by
   obtain⟨h1,h2,h3,h4,h5,h6⟩:=S9 h
   obtain⟨_,_,h8,_,h7,h9⟩:=F6 h
   have hk:=Ve a (Dp k) each h9 h7
   rw [Az,Ah.nodes]
   simp only [List.length_append]
   have e1:(A8 k).length≤4:=Xk k
   have e2:(Fe k n).length≤21:=by
    unfold Fe
    split
    ·have:=C4 h3.1 h3.2;simp only [List.length_cons];omega
    ·simp
   have e3:(Ey k s).length≤50:=by
    unfold Ey
    split
    ·rename_i hk4
     subst hk4
     rw [Afv,Bool.and_eq_true,decide_eq_true_eq] at h8
     have:=Pc s.data.toList
     rw [Fw] at this
     simp only [B4,List.length_cons,List.length_append,List.length_nil]
     omega
    ·simp
   omega
theorem Ve:∀ (l:List Ah) (ts:List Bool) (each:Bool),V2 l ts each=true→l.length=ts.length→(A2 l).length≤101 * Ah.Da l
 | [],_,_,_,_=> by simp [A2]
 | x::l, [],_,_,hl=> by simp at hl
 | x::l,t::ts,each,h,hl=> by
   rw [V2,Bool.and_eq_true] at h
   have h1:=K8 x t each h.1
   have h2:=Ve l ts each h.2 (by simpa using hl)
   have h3:=Ah5 x
   rw [A2,Ah.Da,List.length_cons,List.length_append]
   omega
end
set_option maxRecDepth 100000 in
set_option maxHeartbeats 1000000 in
theorem Vf (d:Nat):∀ (k n:Int) (s:ByteArray) (a:List Ah) (ao:Option Addr) (cap:Nat) (w:World) (text each:Bool),GT w→Ip w d (.mk k n s a) (Mh k n s ao a.length cap)→Kg (.mk k n s a) text each=true→(Ah.mk k n s a).nodes≤1000→
 Calls Tryz.prog 140 #[.agg #[.int .i64 k, .int .i64 n, .string s, .slice ao a.length cap]] w fun e w'=> e= .returned (.string (tx (Az (.mk k n s a))))∧Below w.heap.size w w':=by
 induction d with
 | zero=> intro _ _ _ _ _ _ _ _ _ _ h;exact h.elim
 | succ d ih=>
   intro k n s a ao cap w text each hg h hsh hnd
   obtain⟨h1,h2,h3,h4,h5,h6⟩:=S9 hsh
   obtain⟨RT,hRT⟩:∃ RT,Az (.mk k n s a)=RT:=⟨_,rfl⟩
   have HL:Hid (RT.length≤101000):=by have h7:=K8 _ _ _ hsh;rw [hRT] at h7;show _≤_;omega
   rw [hRT]
   have HRT:=Aa hRT
   clear hRT
   obtain⟨_,_,h8,_,h7,h9⟩:=F6 hsh
   have HN:=Aa h2
   have HS:=Aa h4
   have HSO:=Aa h8
   have HKL:=Aa (Ta h9 h7)
   have HND:=Aa hnd
   have IH:=Aa ih
   obtain⟨ao',cap',he,hk,hn,hs,ha,hkids⟩:=h
   obtain⟨rfl,rfl⟩:ao=ao'∧cap=cap':=by simp [Mh] at he;exact⟨he.1,he.2⟩
   clear he ih h2 h4 h5 h6 h7 h8 h9 hsh hnd
   have hb1:=Ef w k n s ao a.length cap
   obtain⟨c0,c1,c2,c3⟩:=Gq w k n s ao a.length cap
   have HK:=Aa (hkids.mono (E':=Ip (Dj w k n s ao a.length cap) d) (fun x q hq=> hq.later hb1 (Nat.le_refl _)) hb1 (Nat.le_refl _))
   have HG:=Aa (hg.later hb1 (Nat.le_refl _))
   have HB:=Aa hb1
   clear hkids hg hb1
   unfold maxLen at hs ha
   obtain⟨W1,hW1⟩:∃ W,W=w.alloc (.cells #[.int .i64 k, .int .i64 n, .string s, .slice ao a.length cap] 191):=⟨_,rfl⟩
   have hz1:W1.heap.size=w.heap.size+1:=by rw [hW1];simp
   rw [show Dj w k n s ao a.length cap=W1 from hW1.symm] at c0 c1 c2 c3 HK HG HB
   have HW1:=Aa hW1
   have HZ1:=Aa hz1
   clear hW1 hz1
   go_enter Tryz.func140,Tryz.ntmps140
   go_upto_region 1 with (fail)
   rw [←HW1.out]
   clear HW1
   go_cut [3] from 6 to 9 (fun sv wc=> sv= .string (tx (A8 k))∧Hid (Below W1.heap.size W1 wc))
   case first=>
    refine wp_region_noPanic ?_
    refine Al (S:=(fun w'=> Below W1.heap.size W1 w')) (E:= [3,4]) (by kernel_rfl) ?_ (fun hHeld=> ?_)
    ·(first | exact(Below.refl _ _).drew | exact hHeld.trans (b2.mono hHeld.size) | exact hHeld)
    try dsimp only [List.size_toArray,List.length_cons,List.length_nil,Nat.reduceAdd]
    refine hP 1 (v:=?_) rfl (by kernel_rfl) (by rfl) ?_ ?_
    rotate_left
    focus (intro w;go_simp;try with_reducible rfl)
    refine hT 2 [[2], [2]] (v:=?_) rfl (by kernel_rfl) (by rfl) (by assumption) ?_ ?_
    rotate_left
    focus (intro w hSw;(try dsimp only at hSw);(have t0:=cell_later hSw c0);go_simp;try with_reducible rfl)
    try simp only [Act.put,List.setIfInBounds_toArray,List.set_cons_zero,List.set_cons_succ]
    refine hR [0] (by kernel_rfl) (by simp) (Ac.cons rfl (fun KH hKH=> ?_) .nil)
    go_simp
    (go_at_call 171;refine(Xm _).mono ?_;rintro e w2 ⟨rfl,ho2,b2⟩)
    try go_wp2_with fail
    refine hKH.out _ _ ?_ (fun hNew=> ?_)
    ·(first | exact(Below.refl _ _).drew | exact hHeld.trans (b2.mono hHeld.size) | exact hHeld)
    clear hKH KH hHeld
    have hHeld:=hNew
    clear hNew
    try simp only [Act.put,List.setIfInBounds_toArray,List.set_cons_zero,List.set_cons_succ]
    refine hR [3] (by kernel_rfl) (by simp) (Ac.Bb rfl (by kernel_rfl) (fun KH hKH=> ?_) .nil)
    have hl:=Ad3 (b:=W1.heap.size) ho2 h1
    have HBX:=Aa hHeld
    go_simp
    refine hKH.out _ _ ?_
    clear hKH KH
    try clear hHeld
    try simp only [Act.put,List.setIfInBounds_toArray,List.set_cons_zero,List.set_cons_succ]
    refine hR [4] (by kernel_rfl) (by simp) (Ac.Bb rfl (by kernel_rfl) (fun KH hKH=> ?_) .nil)
    go_simp
    refine hKH.out _ _ ?_
    clear hKH KH
    try clear hHeld
    refine Ak (by kernel_rfl) ?_ _
    refine NoPanic.normal ?_
    go_wp2
    go_meet
    exact⟨rfl,HBX⟩
   case rest=>
   obtain⟨rfl,HBC⟩:=hcut
   have d0:=cell_later HBC.out c0
   have d1:=cell_later HBC.out c1
   have d2:=cell_later HBC.out c2
   clear c0 c1 c2
   have HGC:=Aa (HG.out.later HBC.out (Nat.le_refl _))
   have hln:(tx (A8 k)).size≤4:=by rw [Am];exact Xk k
   obtain⟨A,hA⟩:∃ A,A=A8 k++(Fe k n++Ey k s):=⟨_,rfl⟩
   have HA:=Aa hA
   have HX:Hid (RT=A++A2 a):=by show _=_;rw [←HRT.out,Az,hA];simp
   clear hA
   have hLEN:Hid (∀ (j:Nat) x,a[j]?=some x→(tx (A++A2 (a.take j))).size≤101000∧(tx (Az x)).size≤101000∧x.nodes≤1000):=fun j x hx=> by
    have h1:=HL.out
    rw [HX.out,List.length_append,←List.take_append_drop j a,Ox,List.length_append,drop_cons hx,A2,List.length_cons,List.length_append] at h1
    have h2:=HND.out
    rw [Ah.nodes] at h2
    have h3:=Uq (List.mem_of_getElem? hx)
    refine⟨by rw [Am,List.length_append];omega,by rw [Am];omega,by omega⟩
   have hks:(k=3∨k=6∨k=7)∨k=4∨(k≠3∧k≠6∧k≠7∧k≠4):=by omega
   rcases hks with hks | rfl | ⟨e3,e6,e7,e4⟩
   ·have HI:=Aa fun w' (hb:Below wc.heap.size wc w')=> Gc n w' (HGC.out.later hb (Nat.le_refl _)) h3.1 h3.2
    have hil:(tx (Lib.itoa n)).size≤20:=by rw [Am];exact C4 h3.1 h3.2
    have HP:Hid (tx (A8 k)++(⟨#[32]⟩++tx (Lib.itoa n))=tx A):=by
     show _=_
     rw [HA.out,Fe,if_pos hks,Ey,if_neg (by omega)]
     apply Dc
     rw [tl,tl,Ap]
     simp [tx,ByteArray.data_append]
    generalize tx (Lib.itoa n)=D at *
    generalize tx (A8 k)=N at *
    have n1:¬ 9223372036854775807 < 1+D.size:=by omega
    have n2:¬ 9223372036854775807 < N.size+(1+D.size):=by omega
    rcases hks with rfl | rfl | rfl
    all_goals
     go_wp2_with fail
     refine(HI.out _ (Below.refl _ _)).mono ?_
     rintro e wd ⟨rfl,bd⟩
     have HBD:=Aa (HBC.out.trans (bd.mono HBC.out.size))
     have q3:=cell_later HBD.out c3
     clear bd
     go_upto_region 9 with (fail)
     rw [HP.out]
     go_wp2
     go_loopw [3,33] (fun sv iv wr=> ∃ j:Nat,j≤a.length∧iv= .int .i64 j∧sv= .string (tx (A++A2 (a.take j)))∧Hid (Below W1.heap.size W1 wr)) (fun _ iv _=> a.length - (intOf iv).toNat)
     case atStart=> exact⟨0,by omega,rfl,by simp [A2],HBD⟩
     case round=>
      obtain⟨j,hj,rfl,rfl,HBR⟩:=hrel
      by_cases hlt:j < a.length
      ·obtain⟨b,off,d',k',n',s',l',ao',cap',rfl,hbs,rfl,hx,hex,g0,g1,g2,g3⟩:=(HK.out.mono (fun x q hq=> hq.later HBR.out (Nat.le_refl _)) HBR.out (Nat.le_refl _)).kid hlt
       obtain⟨t',ht⟩:=HKL.out _ (List.mem_of_getElem? hx)
       have hlen:=hLEN.out j _ hx
       have hT:=IH.out k' n' s' l' ao' cap' (wr.alloc (.cells #[.int .i64 k', .int .i64 n', .string s', .slice ao' l'.length cap'] 191)) t' each (HG.out.later (HBR.out.alloc HBR.out.size _) (Nat.le_refl _)) (hex.later ((Below.refl _ _).alloc (Nat.le_refl _) _) (Nat.le_refl _)) ht hlen.2.2
       have HT:=Aa hT
       have hn1:(tx (A++A2 (a.take j))).size≤101000:=hlen.1
       have hn2:(tx (Az (.mk k' n' s' l'))).size≤101000:=hlen.2.1
       have HST:Hid (tx (A++A2 (a.take j))++(⟨#[32]⟩++tx (Az (.mk k' n' s' l')))=tx (A++A2 (a.take (j+1)))):=by
        show _=_
        rw [M7 hx]
        apply Dc
        rw [tl,tl,Ap]
        simp [tx,ByteArray.data_append]
       generalize tx (A++A2 (a.take j))=S0 at *
       generalize tx (Az (.mk k' n' s' l'))=S1 at *
       have m1:¬ 9223372036854775807 < 1+S1.size:=by omega
       have m2:¬ 9223372036854775807 < S0.size+(1+S1.size):=by omega
       have f1:(0:Int)≤(j:Int)∧(j:Int) < (a.length:Int):=by omega
       obtain⟨f1,f2⟩:=f1
       clear hx hex ht hlen hT
       go_wp2_with fail
       refine HT.out.mono ?_
       rintro e w2 ⟨rfl,b2⟩
       have HB2:=Aa ((HBR.out.alloc HBR.out.size (.cells #[.int .i64 k', .int .i64 n', .string s', .slice ao' l'.length cap'] 191)).trans (b2.mono (by have:=HBR.out.size;simp;omega)))
       clear b2 HT
       go_wp2
       go_roundw
       case rel=> exact⟨j+1,by omega,by go_num,by rw [HST.out],HB2⟩
       case measure=> (simp [intOf];try omega)
      ·have hj2:j=a.length:=by omega
       have HFIN:Hid (tx (A++A2 (a.take j))=tx RT):=by show _=_;rw [List.take_of_length_le (by omega),HX.out]
       have e1:decide ((j:Int) < (a.length:Int))=false:=by simp;omega
       have HBF:=Aa (HB.out.trans (HBR.out.mono (by have:=HZ1.out;omega)))
       go_wp2
       go_ret
       exact⟨by rw [HFIN.out];rfl,HBF.out⟩
   ·have hs4:=HS.out
    have hs20:s.size≤20:=by
     have h8:=HSO.out
     rw [Afv,Bool.and_eq_true,decide_eq_true_eq] at h8
     exact h8.1
    have HI:=Aa fun w' (hb:Below wc.heap.size wc w')=> Xr s w' (HGC.out.later hb (Nat.le_refl _)).gm (by omega)
    have hil:(tx (B4 s.data.toList)).size≤50:=by
     rw [Am];have:=Pc s.data.toList;rw [Fw] at this;simp only [B4,List.length_cons,List.length_append,List.length_nil];omega
    have HP:Hid (tx (A8 4)++(⟨#[32]⟩++tx (B4 s.data.toList))=tx A):=by
     show _=_
     rw [HA.out,Fe,if_neg (by omega),Ey,if_pos rfl]
     apply Dc
     rw [tl,tl,Ap]
     simp [tx,ByteArray.data_append]
    generalize tx (B4 s.data.toList)=D at *
    generalize tx (A8 4)=N at *
    have n1:¬ 9223372036854775807 < 1+D.size:=by omega
    have n2:¬ 9223372036854775807 < N.size+(1+D.size):=by omega
    clear hs4
    go_wp2_with fail
    refine(HI.out _ (Below.refl _ _)).mono ?_
    rintro e wd ⟨rfl,bd⟩
    have HBD:=Aa (HBC.out.trans (bd.mono HBC.out.size))
    have q3:=cell_later HBD.out c3
    clear bd
    go_upto_region 9 with (fail)
    rw [HP.out]
    go_wp2
    go_loopw [3,33] (fun sv iv wr=> ∃ j:Nat,j≤a.length∧iv= .int .i64 j∧sv= .string (tx (A++A2 (a.take j)))∧Hid (Below W1.heap.size W1 wr)) (fun _ iv _=> a.length - (intOf iv).toNat)
    case atStart=> exact⟨0,by omega,rfl,by simp [A2],HBD⟩
    case round=>
     obtain⟨j,hj,rfl,rfl,HBR⟩:=hrel
     by_cases hlt:j < a.length
     ·obtain⟨b,off,d',k',n',s',l',ao',cap',rfl,hbs,rfl,hx,hex,g0,g1,g2,g3⟩:=(HK.out.mono (fun x q hq=> hq.later HBR.out (Nat.le_refl _)) HBR.out (Nat.le_refl _)).kid hlt
      obtain⟨t',ht⟩:=HKL.out _ (List.mem_of_getElem? hx)
      have hlen:=hLEN.out j _ hx
      have hT:=IH.out k' n' s' l' ao' cap' (wr.alloc (.cells #[.int .i64 k', .int .i64 n', .string s', .slice ao' l'.length cap'] 191)) t' each (HG.out.later (HBR.out.alloc HBR.out.size _) (Nat.le_refl _)) (hex.later ((Below.refl _ _).alloc (Nat.le_refl _) _) (Nat.le_refl _)) ht hlen.2.2
      have HT:=Aa hT
      have hn1:(tx (A++A2 (a.take j))).size≤101000:=hlen.1
      have hn2:(tx (Az (.mk k' n' s' l'))).size≤101000:=hlen.2.1
      have HST:Hid (tx (A++A2 (a.take j))++(⟨#[32]⟩++tx (Az (.mk k' n' s' l')))=tx (A++A2 (a.take (j+1)))):=by
       show _=_
       rw [M7 hx]
       apply Dc
       rw [tl,tl,Ap]
       simp [tx,ByteArray.data_append]
      generalize tx (A++A2 (a.take j))=S0 at *
      generalize tx (Az (.mk k' n' s' l'))=S1 at *
      have m1:¬ 9223372036854775807 < 1+S1.size:=by omega
      have m2:¬ 9223372036854775807 < S0.size+(1+S1.size):=by omega
      have f1:(0:Int)≤(j:Int)∧(j:Int) < (a.length:Int):=by omega
      obtain⟨f1,f2⟩:=f1
      clear hx hex ht hlen hT
      go_wp2_with fail
      refine HT.out.mono ?_
      rintro e w2 ⟨rfl,b2⟩
      have HB2:=Aa ((HBR.out.alloc HBR.out.size (.cells #[.int .i64 k', .int .i64 n', .string s', .slice ao' l'.length cap'] 191)).trans (b2.mono (by have:=HBR.out.size;simp;omega)))
      clear b2 HT
      go_wp2
      go_roundw
      case rel=> exact⟨j+1,by omega,by go_num,by rw [HST.out],HB2⟩
      case measure=> (simp [intOf];try omega)
     ·have hj2:j=a.length:=by omega
      have HFIN:Hid (tx (A++A2 (a.take j))=tx RT):=by show _=_;rw [List.take_of_length_le (by omega),HX.out]
      have e1:decide ((j:Int) < (a.length:Int))=false:=by simp;omega
      have HBF:=Aa (HB.out.trans (HBR.out.mono (by have:=HZ1.out;omega)))
      go_wp2
      go_ret
      exact⟨by rw [HFIN.out];rfl,HBF.out⟩
   ·have HP:Hid (tx (A8 k)=tx A):=by
     show _=_
     rw [HA.out,Fe,if_neg (by omega),Ey,if_neg (by omega),List.append_nil,List.append_nil]
    generalize tx (A8 k)=N at *
    have t3:(k ==3)=false:=by simpa using e3
    have t6:(k ==6)=false:=by simpa using e6
    have t7:(k ==7)=false:=by simpa using e7
    have t4:(k ==4)=false:=by simpa using e4
    clear e3 e6 e7 e4
    have HBD:=HBC
    have q3:=cell_later HBD.out c3
    obtain⟨wd,rfl⟩:∃ wd,wd=wc:=⟨_,rfl⟩
    go_upto_region 9 with (fail)
    rw [HP.out]
    go_wp2
    go_loopw [3,33] (fun sv iv wr=> ∃ j:Nat,j≤a.length∧iv= .int .i64 j∧sv= .string (tx (A++A2 (a.take j)))∧Hid (Below W1.heap.size W1 wr)) (fun _ iv _=> a.length - (intOf iv).toNat)
    case atStart=> exact⟨0,by omega,rfl,by simp [A2],HBD⟩
    case round=>
     obtain⟨j,hj,rfl,rfl,HBR⟩:=hrel
     by_cases hlt:j < a.length
     ·obtain⟨b,off,d',k',n',s',l',ao',cap',rfl,hbs,rfl,hx,hex,g0,g1,g2,g3⟩:=(HK.out.mono (fun x q hq=> hq.later HBR.out (Nat.le_refl _)) HBR.out (Nat.le_refl _)).kid hlt
      obtain⟨t',ht⟩:=HKL.out _ (List.mem_of_getElem? hx)
      have hlen:=hLEN.out j _ hx
      have hT:=IH.out k' n' s' l' ao' cap' (wr.alloc (.cells #[.int .i64 k', .int .i64 n', .string s', .slice ao' l'.length cap'] 191)) t' each (HG.out.later (HBR.out.alloc HBR.out.size _) (Nat.le_refl _)) (hex.later ((Below.refl _ _).alloc (Nat.le_refl _) _) (Nat.le_refl _)) ht hlen.2.2
      have HT:=Aa hT
      have hn1:(tx (A++A2 (a.take j))).size≤101000:=hlen.1
      have hn2:(tx (Az (.mk k' n' s' l'))).size≤101000:=hlen.2.1
      have HST:Hid (tx (A++A2 (a.take j))++(⟨#[32]⟩++tx (Az (.mk k' n' s' l')))=tx (A++A2 (a.take (j+1)))):=by
       show _=_
       rw [M7 hx]
       apply Dc
       rw [tl,tl,Ap]
       simp [tx,ByteArray.data_append]
      generalize tx (A++A2 (a.take j))=S0 at *
      generalize tx (Az (.mk k' n' s' l'))=S1 at *
      have m1:¬ 9223372036854775807 < 1+S1.size:=by omega
      have m2:¬ 9223372036854775807 < S0.size+(1+S1.size):=by omega
      have f1:(0:Int)≤(j:Int)∧(j:Int) < (a.length:Int):=by omega
      obtain⟨f1,f2⟩:=f1
      clear hx hex ht hlen hT
      go_wp2_with fail
      refine HT.out.mono ?_
      rintro e w2 ⟨rfl,b2⟩
      have HB2:=Aa ((HBR.out.alloc HBR.out.size (.cells #[.int .i64 k', .int .i64 n', .string s', .slice ao' l'.length cap'] 191)).trans (b2.mono (by have:=HBR.out.size;simp;omega)))
      clear b2 HT
      go_wp2
      go_roundw
      case rel=> exact⟨j+1,by omega,by go_num,by rw [HST.out],HB2⟩
      case measure=> (simp [intOf];try omega)
     ·have hj2:j=a.length:=by omega
      have HFIN:Hid (tx (A++A2 (a.take j))=tx RT):=by show _=_;rw [List.take_of_length_le (by omega),HX.out]
      have e1:decide ((j:Int) < (a.length:Int))=false:=by simp;omega
      have HBF:=Aa (HB.out.trans (HBR.out.mono (by have:=HZ1.out;omega)))
      go_wp2
      go_ret
      exact⟨by rw [HFIN.out];rfl,HBF.out⟩
end Go.Proofs.YtbibeionenjmfaaGreatDoor
namespace Go.Proofs.YtbibeionenjmfaaGreatDoor
open Go.RowKit
theorem Pw (c:UInt8):∀ (n:Nat) (l:List UInt8),l.length≤n→∀ w∈splitAt c l,w.length≤l.length
 | 0,l,h,w,hw=> by
   obtain rfl:=List.length_eq_zero_iff.1 (Nat.le_zero.1 h)
   rw [Ex (by simp)] at hw
   rw [List.mem_singleton.1 hw];exact Nat.le_refl _
 | n+1,l,h,w,hw=> by
   rcases Ge c l with hc | ⟨A,B,rfl,hA⟩
   ·rw [Ex hc] at hw
    rw [List.mem_singleton.1 hw];exact Nat.le_refl _
   ·rw [Fq hA] at hw
    rw [List.length_append,List.length_cons] at h ⊢
    rcases List.mem_cons.1 hw with e | e
    ·rw [e];omega
    ·have:=Pw c n B (by omega) w e
     omega
end Go.Proofs.YtbibeionenjmfaaGreatDoor
