/- The floor: finish an attempt. -/
import Derived.Test.YtbibeionenjmfaaGreatDoorZFlSub
set_option linter.unusedSimpArgs false
set_option linter.unusedVariables false
namespace Go.Proofs.YtbibeionenjmfaaGreatDoor
open Go.RowKit
theorem Jl {P:Program} {w:World} {ops:Array Oper} {rest:List Oper} {o:Oper} {a:Act} {Q:Exit→Act→World→Prop} (hg:o.guard=none) (hd:o.dst=none) (m x:Operand) (t k:TypeId) (hop:o.op=Op.call {callee:=Callee.builtin Builtin.delete,args:= #[m,x],argTypes:= #[t,k]}) (bb:Nat) (key:Value)
 (hm:a.eval m= .map (some bb)) (hx:a.eval x=key) {w':World} (hrun:(Builtin.delete_ #[t,k] o.type #[.map (some bb),key]).run P w= .ok (.tuple #[]) w')
 (hK:wpList P ops Q rest a w'):wpList P ops Q (o::rest) a w:=by
 refine V8 hg m x t k hop bb key hm hx hrun ?_
 rw [hd]
 exact hK
theorem Sl.I7 {α:Type} {sz:Nat} {enc:α→List Value} {w:World} {a:Option Addr} {l:List α} (h:Sl sz enc w a l):Sl sz enc w.drew a l:=h
def Vw (F:Ad) (a b:Nat) (t:Ev) (st2:Bool):Ad:=
 if st2=true then Au F a b Em else
 let F2:=setOf (Au F a b Em) t (E3 a)
 if t.2.1=true then {F2 with log:=F2.log++Kc (tx Uw, [(t.1:Int),(t.2.2:Int)], [(((F.Af[t.1]?).bind fun o=> o.out[t.2.2]?).getD (tx []))])} else F2
section
variable {w0 w w' W:World} {own own1:Nat→Ez} {G:Bg} {F F':Ad} {n:Nat} {g:Ec} {o:Ba}
set_option maxRecDepth 100000 in
set_option maxHeartbeats 4000000 in
theorem Zp {a b i:Nat} {fo:Bool} {t:Gb} {v:Value} {p:As} (h:B8 w0 w own G F) (hi:InvC F) (ht:An F a b=some t) (hon:t.on=true) (hte:t.t=(n,fo,i)) (hv:G.rf (B7 a b)=some v) (ho:F.Af[n]?=some o) (hp:(Eb o fo)[i]?=some p) (hat:t.at_=p.many) (hou:o.out=Kf o.rs o.fold o.slices o.lines) (hlg:F.log.length≤1000000000000000000) (ha:a < 4) (hb:b < 3):
 Calls Tryz.prog 48 #[.pointer (some ⟨G.fb,0,none⟩), .agg #[.int .i64 a, .int .i64 b], .agg #[.int .i64 n, .bool fo, .int .i64 i],v] w fun e w'=> e= .returned (.tuple #[])∧Bu w0 w own G (Vw F a b (n,fo,i) (decide (p.st=2))) w':=by
 obtain⟨v',g,o',hv',hg,ho',hr⟩:=h.rr a b t ht hon
 rw [hv] at hv'
 cases hv'
 rw [hte] at hg ho' hr
 dsimp only at hg ho'
 rw [ho] at ho'
 cases ho'
 obtain⟨r0,r1,hvr⟩:∃ r0 r1:Option Addr,v= .agg #[.pointer r0, .pointer r1]:=by
  exact hr.shape
 subst hvr
 obtain⟨W,hW⟩:∃ W,W=((w.alloc (.cells #[.int .i64 a, .int .i64 b] 60)).alloc (.cells #[.int .i64 n, .bool fo, .int .i64 i] 33)).alloc (.cells #[.pointer r0, .pointer r1] 112):=⟨_,rfl⟩
 have hb0:Below w.heap.size w W:=by rw [hW];exact((ba w _).alloc (by simp) _).alloc (by simp;omega) _
 have hpb:Bk W w.heap.size [.int .i64 a, .int .i64 b]:=by rw [hW];exact((Bk.new rfl).alloc _).alloc _
 have htb:Bk W (w.heap.size+1) [.int .i64 n, .bool fo, .int .i64 i]:=by
  rw [hW]
  have:=(Bk.new (w:=w.alloc (.cells #[.int .i64 a, .int .i64 b] 60)) (cs:= #[.int .i64 n, .bool fo, .int .i64 i]) (t:=33) rfl).alloc (.cells #[.pointer r0, .pointer r1] 112)
  simpa using this
 have hrb:Bk W (w.heap.size+2) [.pointer r0, .pointer r1]:=by
  rw [hW]
  have:=Bk.new (w:=(w.alloc (.cells #[.int .i64 a, .int .i64 b] 60)).alloc (.cells #[.int .i64 n, .bool fo, .int .i64 i] 33)) (cs:= #[.pointer r0, .pointer r1]) (t:=112) rfl
  simpa using this
 have hW1:=h.later hb0
 have HWS:Hid (w.heap.size+3≤W.heap.size):=by rw [hW];show _≤_;simp
 have HH:=Aa h
 have HB0:=Aa hb0
 have HPB:=Aa hpb
 have HTB:=Aa htb
 have HRB:=Aa hrb
 have HRI:=Aa (hr.kept (Ab.Ai (S:=fun _=> False) hb0 (Nat.le_refl _)) fun q e=> e.elim)
 have q0:=hpb.get (j:=0) rfl
 have q1:=hpb.get (j:=1) rfl
 have c1:=hW1.bk.get (j:=1) rfl
 have HW:=Aa hW
 clear hW h hb0 hpb htb hrb hW1 hr
 go_enter Tryz.func48,Tryz.ntmps48
 go_upto_region 1 with (fail)
 rw [←HW.out]
 clear HW
 have HFB:Hid (∀ w',Below W.heap.size W w'→Calls Tryz.prog 82 #[.pointer (some ⟨G.bb,0,none⟩), .agg #[.int .i64 a, .int .i64 b]] w' fun e w1=> e= .returned (.tuple #[.agg #[.int .i64 n, .bool fo, .int .i64 i], .nilIface])∧Ab (fun q=> own q= .Gp) W w1∧B8 w0 w1 own G (Au F a b Em)):=fun w' hb=> by
  have:=Ai1 (HH.out.later (HB0.out.trans (hb.mono HB0.out.size))) ht hon
  rw [hte] at this
  refine this.mono ?_
  rintro e w1 ⟨e1,k,hf⟩
  exact⟨e1,(Ab.Ai (S:=fun q=> own q= .Gp) hb (Nat.le_refl _)).trans k,hf⟩
 refine wp_region_noPanic ?_
 refine Al (S:=(fun w'=> Below W.heap.size W w')) (E:= [5,6,7,8]) (by kernel_rfl) ?_ (fun hHeld=> ?_)
 ·(first | exact(Below.refl _ _).drew | exact hHeld)
 try dsimp only [List.size_toArray,List.length_cons,List.length_nil,Nat.reduceAdd]
 refine hP 0 (v:=?_) rfl (by kernel_rfl) (by rfl) ?_ ?_
 rotate_left
 focus (intro w;go_simp;try with_reducible rfl)
 refine hT 4 [[4], [5,4], [6,5,4], [6,5,4]] (v:=?_) rfl (by kernel_rfl) (by rfl) (by assumption) ?_ ?_
 rotate_left
 focus (intro w hSw;(try dsimp only at hSw);(have t0:=cell_later hSw q0;have t1:=cell_later hSw q1;have t2:=cell_later hSw c1);go_simp;try with_reducible rfl)
 refine hP 1 (v:=?_) rfl (by kernel_rfl) (by rfl) ?_ ?_
 rotate_left
 focus (intro w;go_simp;try with_reducible rfl)
 refine hP 2 (v:=?_) rfl (by kernel_rfl) (by rfl) ?_ ?_
 rotate_left
 focus (intro w;go_simp;try with_reducible rfl)
 refine hT 3 [[3], [5,3], [6,5,3], [6,5,3]] (v:=?_) rfl (by kernel_rfl) (by rfl) (by assumption) ?_ ?_
 rotate_left
 focus (intro w hSw;(try dsimp only at hSw);(have t0:=cell_later hSw q0;have t1:=cell_later hSw q1;have t2:=cell_later hSw c1);go_simp;try with_reducible rfl)
 try simp only [Act.put,List.setIfInBounds_toArray,List.set_cons_zero,List.set_cons_succ]
 refine hR [5] (by kernel_rfl) (by simp) (Ac.Bb rfl (by kernel_rfl) (fun KH hKH=> ?_) .nil)
 go_simp
 (go_at_call 82;refine(HFB.out _ hHeld).mono ?_;rintro e w1 ⟨rfl,hk1,h1⟩)
 refine hKH.out _ _ ?_
 clear hKH KH
 try clear hHeld
 try simp only [Act.put,List.setIfInBounds_toArray,List.set_cons_zero,List.set_cons_succ]
 refine hP 6 (v:=?_) rfl (by kernel_rfl) (by rfl) ?_ ?_
 rotate_left
 focus (intro w;go_simp;try with_reducible rfl)
 refine hP 7 (v:=?_) rfl (by kernel_rfl) (by rfl) ?_ ?_
 rotate_left
 focus (intro w;go_simp;try with_reducible rfl)
 refine hP 8 (v:=?_) rfl (by kernel_rfl) (by rfl) ?_ ?_
 rotate_left
 focus (intro w;go_simp;try with_reducible rfl)
 try simp only [Act.put,List.setIfInBounds_toArray,List.set_cons_zero,List.set_cons_succ]
 refine Ak (by kernel_rfl) ?_ _
 refine NoPanic.normal ?_
 have ho0:own w.heap.size= .out:=HH.out.Eo (Nat.le_refl _)
 have ho1:own (w.heap.size+1)= .out:=HH.out.Eo (by omega)
 have ho2:own (w.heap.size+2)= .out:=HH.out.Eo (by omega)
 obtain⟨w2,hrun2,h2,k2⟩:=(h1.later (below_drewN (Below.refl _ _) 1)).Ami (a:=a) (b:=b) (Ki (by omega)) (Ki (by omega)) (fun a' b' t' e1 e2 e3=> by
  have ea:a'=a:=by omega
  have eb:b'=b:=by omega
  subst ea eb
  rw [Ce,if_pos ⟨rfl,rfl⟩,ht] at e3
  cases e3;rfl) 0
 have K2:Ab (fun q=> own q= .Gp∨own q= .runs) W w2:=((hk1.mono fun q hq=> .inl hq).trans (Ab.Ai (S:=fun q=> own q= .Gp∨own q= .runs) (below_drewN (Below.refl w1.heap.size w1) 1) (Nat.le_refl _))).trans (k2.mono fun q hq=> .inr hq)
 have hp1:=HPB.out.kept hk1 (by rw [ho0];simp)
 have s0:=hp1.get (j:=0) rfl
 have s1:=hp1.get (j:=1) rfl
 have cm:=h1.bk.get (j:=2) rfl
 have HR2:=Aa hrun2
 clear hrun2 k2
 go_upto_region 2 with (fail)
 refine Bm 5 (by kernel_rfl) (by kernel_rfl) ?_
 simp only [List.take_succ_cons,List.take_zero,List.drop_succ_cons,List.drop_zero]
 repeat still_step
 refine wpStill_nil ?_
 go_wp2_with (at_delete;refine Jl rfl rfl _ _ 87 60 rfl G.mb (B7 a b) rfl rfl HR2.out ?_)
 have hne:∀ {q:Nat},own q= .out→¬ (own q= .Gp∨own q= .runs):=fun {q} e=> by rw [e];simp
 have hpb2:=HPB.out.kept K2 (hne ho0)
 have htb2:=HTB.out.kept K2 (hne ho1)
 have hrb2:=HRB.out.kept K2 (hne ho2)
 have hri2:=HRI.out.kept K2 fun q hq=> by rcases hq with e | e <;> rw [e] <;> simp
 obtain⟨F1,hF1⟩:∃ F1,F1=Au F a b Em:=⟨_,rfl⟩
 rw [←hF1] at h2
 have hoF:F1.Af[n]?=some o:=by rw [hF1];exact ho
 obtain⟨g',gb,cap,hg',ej,cn,hjc,hgb⟩:=h2.Rt hoF
 rw [show({G with rf:=M8 G.rf (.agg #[.int .i64 (a:Int), .int .i64 (b:Int)]) none}:Bg).jg=G.jg from rfl] at hg'
 rw [hg] at hg'
 obtain rfl:=Option.some.inj hg'
 have hnl:=(List.getElem?_eq_some_iff.1 hoF).1
 have f1:(n:Int) < (F1.Af.length:Int):=by omega
 have cj:w2.cell? ⟨G.fb,3,none⟩=some (.slice (some ⟨gb,0,none⟩) F1.Af.length cap):=by
  have:=h2.bk.get (j:=3) rfl
  rw [ej] at this
  exact this
 have t0:=htb2.get (j:=0) rfl
 have t1:=htb2.get (j:=1) rfl
 have t2:=htb2.get (j:=2) rfl
 have p0:=hpb2.get (j:=0) rfl
 have x2:=hjc.hd.bk.get (j:=5) rfl
 have H2:=Aa h2
 have HK2:=Aa K2
 have HPB2:=Aa hpb2
 have HTB2:=Aa htb2
 have HRB2:=Aa hrb2
 have HRI2:=Aa hri2
 have HJC:=Aa hjc
 have HF1:=Aa hF1
 clear hF1 h2 K2 hpb2 htb2 hrb2 hri2 hjc h1 hk1 hp1 s0 s1 cm HR2 HPB HTB HRB HRI HFB q0 q1 c1
 go_upto_region 3 with (fail)
 go_quiet (fail)
 by_cases hst:p.st=2
 ·have HFD:Hid (∀ w',Below w2.heap.size w2 w'→Calls Tryz.prog 83 #[.pointer (some ⟨g.tb,0,none⟩), .bool fo, .int .i64 i, .int .i64 a] w' fun e w3=> e= .returned (.tuple #[.bool false, .nilIface])∧Below w2.heap.size w2 w3):=fun w' hb=> by
   refine(Zu (b:=p.wh) (HJC.out.tk.rt.kept (Ab.Ai (S:=fun _=> False) hb (Nat.le_refl _)) id id id) (by rw [Ady hp,hst])).mono ?_
   rintro e w3 ⟨e1,rfl⟩
   exact⟨e1,hb⟩
  have HEND:Hid (∀ w',Below w2.heap.size w2 w'→Bu w0 w own G (Vw F a b (n,fo,i) (decide (p.st=2))) w'):=fun w' hb=> by
   rw [decide_eq_true hst]
   unfold Vw
   rw [if_pos rfl,←HF1.out]
   refine⟨⟨own,_,H2.out.later hb,rfl,fun _ _=> rfl⟩,?_⟩
   exact(((Ab.Ai (S:=fun q=> own q≠ .out) HB0.out (Nat.le_refl _)).trans (HK2.out.mono fun q hq=> by rcases hq with e | e <;> rw [e] <;> simp)).trans (Ab.Ai (S:=fun q=> own q≠ .out) hb (Nat.le_refl _)))
  clear hst
  go_upto_region 4 with (fail)
  refine wp_region_noPanic ?_
  refine Al (S:=(fun w'=> Below w2.heap.size w2 w')) (E:= [11,12,13,14,15]) (by kernel_rfl) ?_ (fun hHeld=> ?_)
  ·(first | exact(below_drewN (Below.refl _ _) nq).drew | exact hk3 | exact hHeld)
  try dsimp only [List.size_toArray,List.length_cons,List.length_nil,Nat.reduceAdd]
  refine hP 0 (v:=?_) rfl (by kernel_rfl) (by rfl) ?_ ?_
  rotate_left
  focus (intro w;go_simp;try with_reducible rfl)
  refine hP 4 (v:=?_) rfl (by kernel_rfl) (by rfl) ?_ ?_
  rotate_left
  focus (intro w;go_simp;try with_reducible rfl)
  refine hP 6 (v:=?_) rfl (by kernel_rfl) (by rfl) ?_ ?_
  rotate_left
  focus (intro w;go_simp;try with_reducible rfl)
  refine hP 8 (v:=?_) rfl (by kernel_rfl) (by rfl) ?_ ?_
  rotate_left
  focus (intro w;go_simp;try with_reducible rfl)
  refine hP 1 (v:=?_) rfl (by kernel_rfl) (by rfl) ?_ ?_
  rotate_left
  focus (intro w;go_simp;try with_reducible rfl)
  refine hT 5 [[10,5], [11,10,5], [11,10,5], [5], [5]] (v:=?_) rfl (by kernel_rfl) (by rfl) (by assumption) ?_ ?_
  rotate_left
  focus (intro w hSw;(try dsimp only at hSw);(have s0:=cell_later hSw t0;have s1:=cell_later hSw t1;have s2:=cell_later hSw t2;have s3:=cell_later hSw p0;have s4:=cell_later hSw x2);go_simp;try with_reducible rfl)
  refine hT 7 [[10,7], [11,10,7], [11,10,7], [7], [7]] (v:=?_) rfl (by kernel_rfl) (by rfl) (by assumption) ?_ ?_
  rotate_left
  focus (intro w hSw;(try dsimp only at hSw);(have s0:=cell_later hSw t0;have s1:=cell_later hSw t1;have s2:=cell_later hSw t2;have s3:=cell_later hSw p0;have s4:=cell_later hSw x2);go_simp;try with_reducible rfl)
  refine hT 9 [[10,9], [11,10,9], [11,10,9], [9], [9]] (v:=?_) rfl (by kernel_rfl) (by rfl) (by assumption) ?_ ?_
  rotate_left
  focus (intro w hSw;(try dsimp only at hSw);(have s0:=cell_later hSw t0;have s1:=cell_later hSw t1;have s2:=cell_later hSw t2;have s3:=cell_later hSw p0;have s4:=cell_later hSw x2);go_simp;try with_reducible rfl)
  refine hP 2 (v:=?_) rfl (by kernel_rfl) (by rfl) ?_ ?_
  rotate_left
  focus (intro w;go_simp;try with_reducible rfl)
  refine hT 3 [[10,3], [11,10,3], [11,10,3], [3], [3]] (v:=?_) rfl (by kernel_rfl) (by rfl) (by assumption) ?_ ?_
  rotate_left
  focus (intro w hSw;(try dsimp only at hSw);(have s0:=cell_later hSw t0;have s1:=cell_later hSw t1;have s2:=cell_later hSw t2;have s3:=cell_later hSw p0;have s4:=cell_later hSw x2);go_simp;try with_reducible rfl)
  try simp only [Act.put,List.setIfInBounds_toArray,List.set_cons_zero,List.set_cons_succ]
  refine hR [10] (by kernel_rfl) (by simp) (Ac.cons rfl (fun KH hKH=> ?_) .nil)
  go_simp
  (go_at_call 83;refine(HFD.out _ hHeld).mono ?_;rintro e w3 ⟨rfl,hk3⟩)
  refine hKH.out _ _ ?_ (fun hNew=> ?_)
  ·(first | exact(below_drewN (Below.refl _ _) nq).drew | exact hk3 | exact hHeld)
  clear hKH KH hHeld
  have hHeld:=hNew
  clear hNew
  try simp only [Act.put,List.setIfInBounds_toArray,List.set_cons_zero,List.set_cons_succ]
  refine hP 11 (v:=?_) rfl (by kernel_rfl) (by rfl) ?_ ?_
  rotate_left
  focus (intro w;go_simp;try with_reducible rfl)
  refine hP 12 (v:=?_) rfl (by kernel_rfl) (by rfl) ?_ ?_
  rotate_left
  focus (intro w;go_simp;try with_reducible rfl)
  refine hP 13 (v:=?_) rfl (by kernel_rfl) (by rfl) ?_ ?_
  rotate_left
  focus (intro w;go_simp;try with_reducible rfl)
  refine hP 14 (v:=?_) rfl (by kernel_rfl) (by rfl) ?_ ?_
  rotate_left
  focus (intro w;go_simp;try with_reducible rfl)
  refine hP 15 (v:=?_) rfl (by kernel_rfl) (by rfl) ?_ ?_
  rotate_left
  focus (intro w;go_simp;try with_reducible rfl)
  try simp only [Act.put,List.setIfInBounds_toArray,List.set_cons_zero,List.set_cons_succ]
  refine Ak (by kernel_rfl) ?_ _
  refine NoPanic.normal ?_
  have HFIN:=Aa (HEND.out _ hHeld)
  clear HEND HFD hHeld
  go_wp2
  exact bodyPost_ret (v:= .tuple #[]) (by simp [results,Tryz.results48,go_sem]) rfl ⟨rfl,HFIN.out⟩
 ·have HFY:Hid (∀ w',Below w2.heap.size w2 w'→Calls Tryz.prog 83 #[.pointer (some ⟨g.tb,0,none⟩), .bool fo, .int .i64 i, .int .i64 a] w' fun e w3=> e= .returned (.tuple #[.bool true, .nilIface])∧Ab (fun q=> own q= .Mc n) w2 w3∧RT w3 w0.heap.size g.tb g.pb g.sb (L3 fo (o.parts.map J6) i (2,a)) (Ic fo (o.Bw.map J6) i (2,a))):=fun w' hb=> by
   refine(Acu (HJC.out.tk.rt.kept (Ab.Ai (S:=fun _=> False) hb (Nat.le_refl _)) id id id) (Ady hp) hst).mono ?_
   rintro e w3 ⟨e1,k,hrt⟩
   exact⟨e1,(Ab.Ai (S:=fun q=> own q= .Mc n) hb (Nat.le_refl _)).trans (k.mono fun q hq=> hq ▸ HJC.out.tag fo),hrt⟩
  go_upto_region 4 with (fail)
  refine wp_region_noPanic ?_
  refine Al (S:=(fun w'=> Below w2.heap.size w2 w')) (E:= [10,11,12,13,14,15]) (by kernel_rfl) ?_ (fun hHeld=> ?_)
  ·(first | exact(below_drewN (Below.refl _ _) nq).drew | exact hHeld)
  try dsimp only [List.size_toArray,List.length_cons,List.length_nil,Nat.reduceAdd]
  refine hP 0 (v:=?_) rfl (by kernel_rfl) (by rfl) ?_ ?_
  rotate_left
  focus (intro w;go_simp;try with_reducible rfl)
  refine hP 4 (v:=?_) rfl (by kernel_rfl) (by rfl) ?_ ?_
  rotate_left
  focus (intro w;go_simp;try with_reducible rfl)
  refine hP 6 (v:=?_) rfl (by kernel_rfl) (by rfl) ?_ ?_
  rotate_left
  focus (intro w;go_simp;try with_reducible rfl)
  refine hP 8 (v:=?_) rfl (by kernel_rfl) (by rfl) ?_ ?_
  rotate_left
  focus (intro w;go_simp;try with_reducible rfl)
  refine hP 1 (v:=?_) rfl (by kernel_rfl) (by rfl) ?_ ?_
  rotate_left
  focus (intro w;go_simp;try with_reducible rfl)
  refine hT 5 [[5], [10,5], [11,10,5], [11,10,5], [5], [5]] (v:=?_) rfl (by kernel_rfl) (by rfl) (by assumption) ?_ ?_
  rotate_left
  focus (intro w hSw;(try dsimp only at hSw);(have s0:=cell_later hSw t0;have s1:=cell_later hSw t1;have s2:=cell_later hSw t2;have s3:=cell_later hSw p0;have s4:=cell_later hSw x2);go_simp;try with_reducible rfl)
  refine hT 7 [[7], [10,7], [11,10,7], [11,10,7], [7], [7]] (v:=?_) rfl (by kernel_rfl) (by rfl) (by assumption) ?_ ?_
  rotate_left
  focus (intro w hSw;(try dsimp only at hSw);(have s0:=cell_later hSw t0;have s1:=cell_later hSw t1;have s2:=cell_later hSw t2;have s3:=cell_later hSw p0;have s4:=cell_later hSw x2);go_simp;try with_reducible rfl)
  refine hT 9 [[9], [10,9], [11,10,9], [11,10,9], [9], [9]] (v:=?_) rfl (by kernel_rfl) (by rfl) (by assumption) ?_ ?_
  rotate_left
  focus (intro w hSw;(try dsimp only at hSw);(have s0:=cell_later hSw t0;have s1:=cell_later hSw t1;have s2:=cell_later hSw t2;have s3:=cell_later hSw p0;have s4:=cell_later hSw x2);go_simp;try with_reducible rfl)
  refine hP 2 (v:=?_) rfl (by kernel_rfl) (by rfl) ?_ ?_
  rotate_left
  focus (intro w;go_simp;try with_reducible rfl)
  refine hT 3 [[3], [10,3], [11,10,3], [11,10,3], [3], [3]] (v:=?_) rfl (by kernel_rfl) (by rfl) (by assumption) ?_ ?_
  rotate_left
  focus (intro w hSw;(try dsimp only at hSw);(have s0:=cell_later hSw t0;have s1:=cell_later hSw t1;have s2:=cell_later hSw t2;have s3:=cell_later hSw p0;have s4:=cell_later hSw x2);go_simp;try with_reducible rfl)
  try simp only [Act.put,List.setIfInBounds_toArray,List.set_cons_zero,List.set_cons_succ]
  refine hR [10] (by kernel_rfl) (by simp) (Ac.Bb rfl (by kernel_rfl) (fun KH hKH=> ?_) .nil)
  go_simp
  (go_at_call 83;refine(HFY.out _ hHeld).mono ?_;rintro e w3 ⟨rfl,hk3,hrt3⟩)
  refine hKH.out _ _ ?_
  clear hKH KH
  try clear hHeld
  try simp only [Act.put,List.setIfInBounds_toArray,List.set_cons_zero,List.set_cons_succ]
  refine hP 11 (v:=?_) rfl (by kernel_rfl) (by rfl) ?_ ?_
  rotate_left
  focus (intro w;go_simp;try with_reducible rfl)
  refine hP 12 (v:=?_) rfl (by kernel_rfl) (by rfl) ?_ ?_
  rotate_left
  focus (intro w;go_simp;try with_reducible rfl)
  refine hP 13 (v:=?_) rfl (by kernel_rfl) (by rfl) ?_ ?_
  rotate_left
  focus (intro w;go_simp;try with_reducible rfl)
  refine hP 14 (v:=?_) rfl (by kernel_rfl) (by rfl) ?_ ?_
  rotate_left
  focus (intro w;go_simp;try with_reducible rfl)
  refine hP 15 (v:=?_) rfl (by kernel_rfl) (by rfl) ?_ ?_
  rotate_left
  focus (intro w;go_simp;try with_reducible rfl)
  try simp only [Act.put,List.setIfInBounds_toArray,List.set_cons_zero,List.set_cons_succ]
  refine Ak (by kernel_rfl) ?_ _
  refine NoPanic.normal ?_
  have hfx:=hi.Hl n o ho
  have hi64:i≤1000000:=by
   have:=(List.getElem?_eq_some_iff.1 hp).1
   have h1:=hfx.Nl
   have h2:=hfx.Nq
   have h3:=hfx.Afy
   unfold Eb at this
   split at this <;> omega
  have hn6:n≤1000000:=by have:=hi.jl;have:=(List.getElem?_eq_some_iff.1 ho).1;omega
  have hntk:∀ {q:Nat},own q= .out→¬ own q= .Mc n:=fun {q} e=> by rw [e];simp
  have htb3:=HTB2.out.kept hk3 (hntk ho1)
  have hhd3:=HJC.out.hd.kept hk3 fun q hq=> by rw [hq];simp
  have x8:=hhd3.bk.get (j:=8) rfl
  have s0:=htb3.get (j:=0) rfl
  have s1:=htb3.get (j:=1) rfl
  have s2:=htb3.get (j:=2) rfl
  have hsv3:Ds (w3.drewN 1) Tryz.prog 33 g.mb g.sf:=(HJC.out.sv.sv.kept hk3 (by rw [HJC.out.sv.om];simp)).kept (Ab.Ai (S:=fun _=> False) (below_drewN (Below.refl w3.heap.size w3) 1) (Nat.le_refl _)) id
  obtain⟨w4,hrun4,hm4,hk4⟩:=hsv3.drop Aob Tryz.underlying99 (key:=C9 (n,fo,i)) (Ab6 (Ki hn6) (Ki hi64)) 0
  have K24:Ab (fun q=> own q= .Mc n∨own q= .saved n) w2 w4:=((hk3.mono fun q hq=> .inl hq).trans (Ab.Ai (S:=fun q=> own q= .Mc n∨own q= .saved n) (below_drewN (Below.refl w3.heap.size w3) 1) (Nat.le_refl _))).trans (hk4.mono fun q hq=> .inr (hq ▸ HJC.out.sv.om))
  have hrt4:=hrt3.kept ((Ab.Ai (S:=fun q=> own q= .saved n) (below_drewN (Below.refl w3.heap.size w3) 1) (Nat.le_refl _)).trans (hk4.mono (T:=fun q=> own q= .saved n) fun q hq=> hq ▸ HJC.out.sv.om)) (by rw [HJC.out.tk.ot.1];simp) (by rw [HJC.out.tk.ot.2.1];simp) (by rw [HJC.out.tk.ot.2.2];simp)
  have HR4:=Aa hrun4
  have HK24:=Aa K24
  have HM4:=Aa hm4
  have HRT4:=Aa hrt4
  clear hk3 hrt3 htb3 hhd3 hsv3 hrun4 hm4 hk4 K24 hrt4 HFY t0 t1 t2 p0 x2 cj cn
  have htb4:=HTB2.out.kept HK24.out (fun e=> by rw [ho1] at e;simp at e)
  have hrb4:=HRB2.out.kept HK24.out (fun e=> by rw [ho2] at e;simp at e)
  have hhd4:=HJC.out.hd.kept HK24.out fun q hq=> by rcases hq with e | e <;> rw [e] <;> simp
  have hri4:=HRI2.out.kept HK24.out fun q hq=> by rcases hq with e | e <;> rw [e] <;> simp
  have u1:=htb4.get (j:=1) rfl
  have u2:=htb4.get (j:=2) rfl
  have v0:=hrb4.get (j:=0) rfl
  have v1:=hrb4.get (j:=1) rfl
  have y6:=hhd4.bk.get (j:=6) rfl
  have y7:=hhd4.bk.get (j:=7) rfl
  have HTB4:=Aa htb4
  have HRB4:=Aa hrb4
  have HHD4:=Aa hhd4
  have HRI4:=Aa hri4
  have HFX:=Aa hfx
  clear htb4 hrb4 hhd4 hri4 HTB2 HRB2 HRI2 hfx ej hgb f1 hnl hntk hg'
  cases fo with
  | false=>
    go_upto_region 6 with (fail)
    refine Bm 5 (by kernel_rfl) (by kernel_rfl) ?_
    simp only [List.take_succ_cons,List.take_zero,List.drop_succ_cons,List.drop_zero]
    repeat still_step
    refine wpStill_nil ?_
    go_wp2_with (at_delete;refine Jl rfl rfl _ _ 99 33 rfl g.mb (C9 (n,false,i)) rfl rfl HR4.out ?_)
    clear s0 s1 s2 x8 HR4
    have hri:=HRI4.out
    unfold Cf at hri
    rw [if_neg (by simp)] at hri
    dsimp only at hri
    obtain⟨B,vm,hvm,hB,hri⟩:=hri
    have hvm0:vm= .pointer r0:=by simp at hvm;exact hvm.1.symm
    subst hvm0
    have hil:i < o.parts.length:=(List.getElem?_eq_some_iff.1 hp).1
    obtain⟨gb2,cap2,lv,ov,hpv,hpl,hgb2,hco⟩:=HJC.out.partAt hil
    have hco4:=HK24.out.cell hco (by rw [hgb2];simp)
    rw [hpv] at y6
    have HPO4:Hid (Own 2 Ew 133 w4 w0.heap.size (.slice (some ⟨gb2,0,none⟩) o.parts.length cap2) g.pl):=by
     have:=HK24.out.own HJC.out.pt.po fun q hq=> by rw [HJC.out.pt.op q hq];simp
     rw [hpv] at this
     exact this
    have hpm:t.at_=(Aq o i).length:=by rw [hat,Cr];exact(hi.part n o false i p ho hp).many
    have h60:(Aq o i).length≤60:=by rw [Cr];unfold G8;have:=HFX.out.lines;simp;omega
    have HMS:Hid (∀ w',Below w4.heap.size w4 w'→Calls Tryz.prog 85 #[.pointer r0] w' fun e w5=> ∃ ob vs,e= .returned (.slice (some ⟨ob,0,none⟩) o.slices o.slices)∧O7 w5 w4.heap.size ob vs (Ko o.fold o.early o.slices (Bf o.rs o.fold (Aq o i)))∧Below w4.heap.size w4 w5):=fun w' hb=> by
     have:=Zw w' (hri.later hb) (O6.of (by rw [HJC.out.hd.rv];exact HFX.out.ok)) (fun l hl=> by have:=HFX.out.short l (H7 hl);omega) (by omega)
     rw [hpm,List.take_length,HJC.out.hd.rv] at this
     refine this.mono ?_
     rintro e w5 ⟨ob,vs,e1,h3,h4⟩
     exact⟨ob,vs,e1,h3.B6 hb.size,hb.trans (h4.mono hb.size)⟩
    have HEND:Hid (∀ w5 ob vs,O7 w5 w4.heap.size ob vs (Ko o.fold o.early o.slices (Bf o.rs o.fold (Aq o i)))→Below w4.heap.size w4 w5→Bu w0 w own G (Vw F a b (n,false,i) (decide (p.st=2))) (w5.setCell ⟨gb2,i * 2+1,none⟩ (.slice (some ⟨ob,0,none⟩) o.slices o.slices))):=fun w5 ob vs h3 h4=> by
     rw [decide_eq_false hst]
     unfold Vw
     rw [if_neg (by simp),←HF1.out]
     dsimp only
     rw [if_neg (by simp)]
     exact Adc (G2:={G with rf:=M8 G.rf (.agg #[.int .i64 (a:Int), .int .i64 (b:Int)]) none}) ((Ab.Ai (S:=fun q=> own q≠ .out) HB0.out (Nat.le_refl _)).trans (HK2.out.mono fun q hq=> by rcases hq with e | e <;> rw [e] <;> simp)) rfl H2.out hg hoF hp HK24.out HRT4.out HM4.out h4 hpv hpl h3
    have f2:(i:Int) < (o.parts.length:Int):=by omega
    clear hpm h60 hri hvm hB hpl hgb2 hpv hco hst hat hil hte ht hv
    go_upto_region 10 with (fail)
    refine wp_region_noPanic ?_
    refine Al (S:=(fun w'=> Below w4.heap.size w4 w')) (E:= [11]) (by kernel_rfl) ?_ (fun hHeld=> ?_)
    ·(first | exact(Below.refl _ _).drew | exact hb5 | exact hHeld)
    try dsimp only [List.size_toArray,List.length_cons,List.length_nil,Nat.reduceAdd]
    refine hP 0 (v:=?_) rfl (by kernel_rfl) (by rfl) ?_ ?_
    rotate_left
    focus (intro w;go_simp;try with_reducible rfl)
    refine hP 4 (v:=?_) rfl (by kernel_rfl) (by rfl) ?_ ?_
    rotate_left
    focus (intro w;go_simp;try with_reducible rfl)
    refine hP 6 (v:=?_) rfl (by kernel_rfl) (by rfl) ?_ ?_
    rotate_left
    focus (intro w;go_simp;try with_reducible rfl)
    refine hP 1 (v:=?_) rfl (by kernel_rfl) (by rfl) ?_ ?_
    rotate_left
    focus (intro w;go_simp;try with_reducible rfl)
    refine hT 5 [[5]] (v:=?_) rfl (by kernel_rfl) (by rfl) (by assumption) ?_ ?_
    rotate_left
    focus (intro w hSw;(try dsimp only at hSw);(have z2:=cell_later hSw u2;have z0:=cell_later hSw v0;have z6:=cell_later hSw y6);go_simp;try with_reducible rfl)
    refine hT 7 [[7]] (v:=?_) rfl (by kernel_rfl) (by rfl) (by assumption) ?_ ?_
    rotate_left
    focus (intro w hSw;(try dsimp only at hSw);(have z2:=cell_later hSw u2;have z0:=cell_later hSw v0;have z6:=cell_later hSw y6);go_simp;try with_reducible rfl)
    refine hP 2 (v:=?_) rfl (by kernel_rfl) (by rfl) ?_ ?_
    rotate_left
    focus (intro w;go_simp;try with_reducible rfl)
    refine hT 3 [[3]] (v:=?_) rfl (by kernel_rfl) (by rfl) (by assumption) ?_ ?_
    rotate_left
    focus (intro w hSw;(try dsimp only at hSw);(have z2:=cell_later hSw u2;have z0:=cell_later hSw v0;have z6:=cell_later hSw y6);go_simp;try with_reducible rfl)
    try simp only [Act.put,List.setIfInBounds_toArray,List.set_cons_zero,List.set_cons_succ]
    refine hR [8] (by kernel_rfl) (by simp) (Ac.cons rfl (fun KH hKH=> ?_) .nil)
    go_simp
    (go_at_call 85;refine(HMS.out _ hHeld).mono ?_;rintro e w5 ⟨ob,vs,rfl,hr5,hb5⟩)
    refine hKH.out _ _ ?_ (fun hNew=> ?_)
    ·(first | exact(Below.refl _ _).drew | exact hb5 | exact hHeld)
    clear hKH KH hHeld
    have hHeld:=hNew
    clear hNew
    try simp only [Act.put,List.setIfInBounds_toArray,List.set_cons_zero,List.set_cons_succ]
    refine hP 9 (v:=?_) rfl (by kernel_rfl) (by rfl) ?_ ?_
    rotate_left
    focus (intro w;go_simp;try with_reducible rfl)
    refine hP 10 (v:=?_) rfl (by kernel_rfl) (by rfl) ?_ ?_
    rotate_left
    focus (intro w;go_simp;try with_reducible rfl)
    try simp only [Act.put,List.setIfInBounds_toArray,List.set_cons_zero,List.set_cons_succ]
    refine hR [11] (by kernel_rfl) (by simp) (Ac.Bb rfl (by kernel_rfl) (fun KH hKH=> ?_) .nil)
    have s9:=cell_later hHeld hco4
    have z9:=(HPO4.out.later hHeld).frozenAt (i * 2+1)
    go_simp
    refine hKH.out _ _ ?_
    clear hKH KH
    try clear hHeld
    refine Ak (by kernel_rfl) ?_ _
    refine NoPanic.normal ?_
    have HFIN:=Aa (HEND.out w5 ob vs hr5 hb5)
    clear HEND HMS hr5 hb5 u1 u2 v0 v1 y6 y7 hco4
    go_wp2
    exact bodyPost_end (results_none rfl _ _ _) rfl ⟨rfl,HFIN.out⟩
  | true=>
    go_upto_region 6 with (fail)
    refine Bm 5 (by kernel_rfl) (by kernel_rfl) ?_
    simp only [List.take_succ_cons,List.take_zero,List.drop_succ_cons,List.drop_zero]
    repeat still_step
    refine wpStill_nil ?_
    go_wp2_with (at_delete;refine Jl rfl rfl _ _ 99 33 rfl g.mb (C9 (n,true,i)) rfl rfl HR4.out ?_)
    clear s0 s1 s2 x8 HR4
    have hri:=HRI4.out
    unfold Cf at hri
    rw [if_pos rfl] at hri
    dsimp only at hri
    obtain⟨B,vf,hvf,hB,hri⟩:=hri
    have hvf0:vf= .pointer r1:=by simp at hvf;exact hvf.2.symm
    subst hvf0
    have hil:i < o.slices:=by rw [←HFX.out.Nq];exact(List.getElem?_eq_some_iff.1 hp).1
    have hgl:=HFX.out.Ll hil
    obtain⟨s,hs⟩:∃ s,s=tx (Ct (V0 o.rs o.fold o.slices o.lines i)):=⟨_,rfl⟩
    have hos:o.out[i]?=some s:=by
     rw [hou,hs];unfold Kf
     rw [List.getElem?_map,List.getElem?_range hil];rfl
    have HSZ:Hid (s.size≤10000000):=by
     have:=HFX.out.T4 i (Ae o.fold (Cd o i)).length
     rw [List.take_length,hgl] at this
     show _≤_
     rw [hs,Am];omega
    have hpm:t.at_=(Ae o.fold (Cd o i)).length:=by rw [hat,(hi.part n o true i p ho hp).many,hgl];rfl
    have hosl:i < g.os.length:=by rw [HJC.out.os.on_];exact hil
    have HOU:Hid (∀ w',Below w4.heap.size w4 w'→Calls Tryz.prog 84 #[.pointer r1] w' fun e w5=> e= .returned (.string s)∧Below w4.heap.size w4 w5):=fun w' hb=> by
     have hlt:∀ q,own q= .run a b→q < w'.heap.size:=fun q hq=> by
      have h1:=H2.out.lt (q:=q) (by rw [hq];simp)
      have h3:=HK24.out.size
      have h5:=hb.size
      omega
     have:=Ae6 w' (HH.out.gw.later ((H2.out.E5.trans (HK24.out.below (fun q hq=> (H2.out.lo q (by rcases hq with e | e <;> rw [e] <;> simp)).1) H2.out.E5.size)).trans (hb.mono (Nat.le_trans H2.out.E5.size HK24.out.size))) (Nat.le_refl _)).toGT ((hri.later hb).Apv hlt) (HFX.out.Ym i)
     rw [hpm,List.take_length,hgl,←hs] at this
     refine this.mono ?_
     rintro e w5 ⟨e1,h4⟩
     exact⟨e1,hb.trans (h4.mono hb.size)⟩
    have HEND:Hid (∀ w5,Below w4.heap.size w4 w5→Ab (fun q=> own q≠ .out) w (w5.setCell ⟨g.ob,i,none⟩ (.string s))∧∃ G3,B8 w0 (w5.setCell ⟨g.ob,i,none⟩ (.string s)) own G3 (setOf F1 (n,true,i) (E3 a))∧G3.fb=G.fb):=fun w5 h4=>
     Ahc (G2:={G with rf:=M8 G.rf (.agg #[.int .i64 (a:Int), .int .i64 (b:Int)]) none}) ((Ab.Ai (S:=fun q=> own q≠ .out) HB0.out (Nat.le_refl _)).trans (HK2.out.mono fun q hq=> by rcases hq with e | e <;> rw [e] <;> simp)) rfl H2.out hg hoF hp hos HK24.out HRT4.out HM4.out h4 hosl
    have f2:(i:Int) < (o.slices:Int):=by omega
    have HOS4:Hid (Own 1 Cm 9 w4 w0.heap.size (.slice (some ⟨g.ob,0,none⟩) o.slices o.slices) g.os):=HK24.out.own HJC.out.os.os fun q hq=> by cases hq;rw [HJC.out.os.oo];simp
    have hco4:w4.cell? ⟨g.ob,i,none⟩=some (.string g.os[i]):=by
     have:=HOS4.out.cellAt (i:=i) (j:=0) (x:=g.os[i]) Cc (List.getElem?_eq_getElem hosl) rfl
     simpa using this
    have HRUN:=Aa hri
    have HOUT2:Hid (∀ w',w2.heap.size≤w'.heap.size→GT w'→Gv w' B o.fold (Cd o i) t.at_ (fun q=> own q= .run a b) (fun q=> own q= .run a b) (.pointer r1)→Calls Tryz.prog 84 #[.pointer r1] w' fun e w5=> e= .returned (.string s)∧Below w'.heap.size w' w5):=fun w' hsz hgt hr=> by
     have:=Ae6 w' hgt (hr.Apv fun q hq=> by have h1:=H2.out.lt (q:=q) (by rw [hq];simp);omega) (HFX.out.Ym i)
     rw [hpm,List.take_length,hgl,←hs] at this
     exact this
    have HLOG:Hid (Vw F a b (n,true,i) (decide (p.st=2))={setOf F1 (n,true,i) (E3 a) with log:=F.log++Kc (tx Uw, [(n:Int),(i:Int)], [s])}):=by
     show _=_
     rw [decide_eq_false hst]
     unfold Vw
     rw [if_neg (by simp),←HF1.out]
     dsimp only
     rw [if_pos rfl,ho]
     simp only [Option.bind_some]
     rw [hos,Option.getD_some]
     rw [HF1.out]
     rfl
    clear hpm hri hvf hB hst hat hil hte ht hv hgl hs hou
    go_upto_region 8 with (fail)
    refine wp_region_noPanic ?_
    refine Al (S:=(fun w'=> Below w4.heap.size w4 w')) (E:= [10]) (by kernel_rfl) ?_ (fun hHeld=> ?_)
    ·(first | exact(Below.refl _ _).drew | exact hb5 | exact hHeld)
    try dsimp only [List.size_toArray,List.length_cons,List.length_nil,Nat.reduceAdd]
    refine hP 0 (v:=?_) rfl (by kernel_rfl) (by rfl) ?_ ?_
    rotate_left
    focus (intro w;go_simp;try with_reducible rfl)
    refine hP 4 (v:=?_) rfl (by kernel_rfl) (by rfl) ?_ ?_
    rotate_left
    focus (intro w;go_simp;try with_reducible rfl)
    refine hP 6 (v:=?_) rfl (by kernel_rfl) (by rfl) ?_ ?_
    rotate_left
    focus (intro w;go_simp;try with_reducible rfl)
    refine hP 1 (v:=?_) rfl (by kernel_rfl) (by rfl) ?_ ?_
    rotate_left
    focus (intro w;go_simp;try with_reducible rfl)
    refine hT 5 [[5]] (v:=?_) rfl (by kernel_rfl) (by rfl) (by assumption) ?_ ?_
    rotate_left
    focus (intro w hSw;(try dsimp only at hSw);(have z2:=cell_later hSw u2;have z1:=cell_later hSw v1;have z7:=cell_later hSw y7);go_simp;try with_reducible rfl)
    refine hT 7 [[7]] (v:=?_) rfl (by kernel_rfl) (by rfl) (by assumption) ?_ ?_
    rotate_left
    focus (intro w hSw;(try dsimp only at hSw);(have z2:=cell_later hSw u2;have z1:=cell_later hSw v1;have z7:=cell_later hSw y7);go_simp;try with_reducible rfl)
    refine hP 2 (v:=?_) rfl (by kernel_rfl) (by rfl) ?_ ?_
    rotate_left
    focus (intro w;go_simp;try with_reducible rfl)
    refine hT 3 [[3]] (v:=?_) rfl (by kernel_rfl) (by rfl) (by assumption) ?_ ?_
    rotate_left
    focus (intro w hSw;(try dsimp only at hSw);(have z2:=cell_later hSw u2;have z1:=cell_later hSw v1;have z7:=cell_later hSw y7);go_simp;try with_reducible rfl)
    try simp only [Act.put,List.setIfInBounds_toArray,List.set_cons_zero,List.set_cons_succ]
    refine hR [8] (by kernel_rfl) (by simp) (Ac.cons rfl (fun KH hKH=> ?_) .nil)
    go_simp
    (go_at_call 84;refine(HOU.out _ hHeld).mono ?_;rintro e w5 ⟨rfl,hb5⟩)
    refine hKH.out _ _ ?_ (fun hNew=> ?_)
    ·(first | exact(Below.refl _ _).drew | exact hb5 | exact hHeld)
    clear hKH KH hHeld
    have hHeld:=hNew
    clear hNew
    try simp only [Act.put,List.setIfInBounds_toArray,List.set_cons_zero,List.set_cons_succ]
    refine hP 9 (v:=?_) rfl (by kernel_rfl) (by rfl) ?_ ?_
    rotate_left
    focus (intro w;go_simp;try with_reducible rfl)
    try simp only [Act.put,List.setIfInBounds_toArray,List.set_cons_zero,List.set_cons_succ]
    refine hR [10] (by kernel_rfl) (by simp) (Ac.Bb rfl (by kernel_rfl) (fun KH hKH=> ?_) .nil)
    have s9:=cell_later hHeld hco4
    have z9:=(HOS4.out.later hHeld).frozenAt i
    go_simp
    refine hKH.out _ _ ?_
    clear hKH KH
    try clear hHeld
    refine Ak (by kernel_rfl) ?_ _
    refine NoPanic.normal ?_
    obtain⟨hkw,G3,hf6,hfb3⟩:=HEND.out w5 hb5
    have k56:Ab (fun q=> q=g.ob) w5 (w5.setCell ⟨g.ob,i,none⟩ (.string s)):=(Ab.refl (fun q=> q=g.ob) w5).setCell (p:=⟨g.ob,i,none⟩) rfl _
    obtain⟨W6,hW6⟩:∃ W6,W6=w5.setCell ⟨g.ob,i,none⟩ (.string s):=⟨_,rfl⟩
    rw [←hW6] at hkw hf6 k56
    rw [←hW6]
    have k46:Ab (fun q=> q=g.ob) w4 W6:=(Ab.Ai hb5 (Nat.le_refl _)).trans k56
    have hoo:=HJC.out.os.oo
    have htb6:=HTB4.out.kept k46 (fun e=> by rw [e,hoo] at ho1;cases ho1)
    have hrb6:=HRB4.out.kept k46 (fun e=> by rw [e,hoo] at ho2;cases ho2)
    have hrun6:=HRUN.out.kept k46 (fun q hq e=> by rw [e,hoo] at hq;cases hq) (fun q hq e=> by rw [e,hoo] at hq;cases hq)
    have c4:=hf6.bk.get (j:=4) rfl
    have ef3:(setOf F1 (n,true,i) (E3 a)).log=F.log:=by rw [HF1.out];rfl
    rw [hfb3,ef3] at c4
    have e0:=htb6.get (j:=0) rfl
    have e2:=htb6.get (j:=2) rfl
    have r1c:=hrb6.get (j:=1) rfl
    have hs26:w2.heap.size≤W6.heap.size:=Nat.le_trans HK24.out.size k46.size
    have HOU6:Hid (∀ w',Below W6.heap.size W6 w'→Calls Tryz.prog 84 #[.pointer r1] w' fun e w5=> e= .returned (.string s)∧Below w'.heap.size w' w5):=fun w' hb=> HOUT2.out w' (Nat.le_trans hs26 hb.size) (hf6.gwl.later hb (Nat.le_refl _)).toGT (hrun6.later hb)
    clear HOU HOUT2 HEND hb5 k56 htb6 hrb6 hrun6 k46 s9 z9 hco4 u1 u2 v0 v1 y6 y7 HOS4 hW6
    have hssz:s.size≤10000000:=HSZ.out
    have HI6:Hid (Ahi [(n:Int),(i:Int)]):=by
     intro x hx
     simp at hx
     rcases hx with rfl | rfl <;> constructor <;> omega
    have HT6:Hid (∀ t∈ [s],t.size≤10000000):=by
     intro t ht
     simp at ht
     rw [ht];exact hssz
    have HJT:=Aa fun(w':World) (k:Below W6.heap.size W6 w') (na ta:Option Addr) (hs1:Sl 1 Fj w' na [(n:Int),(i:Int)]) (hs2:Sl 1 Cm w' ta [s])=> Wf (tx Uw) na 2 [(n:Int),(i:Int)] ta 1 [s] w' (hf6.gwl.later k (Nat.le_refl _)) (by decide) (by simp) (by simp) HI6.out HT6.out hs1 hs2 (by simp)
    have hcat:¬ 9223372036854775807 < (tx F.log).size+(tx (Kc (tx Uw, [(n:Int),(i:Int)], [s]))).size:=by
     have h6:=S4 (k:=tx Uw) (N:= [(n:Int),(i:Int)]) (T:= [s]) (by decide) HI6.out (by simp) (by simp) HT6.out
     rw [Am (l:=F.log)]
     omega
    have HLQ:Hid (tx F.log++tx (Kc (tx Uw, [(n:Int),(i:Int)], [s]))=tx (F.log++Kc (tx Uw, [(n:Int),(i:Int)], [s]))):=by
     show _=_
     apply Dc
     rw [tl,tl,Ap]
     simp [tx,ByteArray.data_append]
    have HHO:=Aa HH.out.oh
    have hf6e:∃ v3,W6.cell? ⟨G3.fb,3,none⟩=some v3:=⟨_,hf6.bk.get (j:=3) rfl⟩
    obtain⟨v3,hv3⟩:=hf6e
    have HV3:=Aa hv3
    have HF6:=Aa hf6
    have HKW:=Aa hkw
    have HFB3:=Aa hfb3
    clear HI6 HT6 hssz hv3 hf6 hkw hfb3 ef3
    generalize Kc (tx Uw, [(n:Int),(i:Int)], [s])=en at *
    obtain⟨lg,hlg'⟩:∃ lg,lg=tx F.log:=⟨_,rfl⟩
    obtain⟨ent,hent⟩:∃ ent,ent=tx en:=⟨_,rfl⟩
    rw [←hlg',←hent] at hcat HLQ
    rw [←hlg'] at c4
    rw [←hent] at HJT
    clear hlg' hent
    go_upto_region 9 with (fail)
    refine wp_region_noPanic ?_
    refine Al (S:=(fun w'=> Below W6.heap.size W6 w')) (E:= [18]) (by kernel_rfl) ?_ (fun hHeld=> ?_)
    ·(first | exact(Below.refl _ _).drew | exact hHeld.alloc hHeld.size _ | exact hHeld.trans (b7.mono hHeld.size) | exact hHeld.trans (b6.mono hHeld.size) | exact hHeld)
    try dsimp only [List.size_toArray,List.length_cons,List.length_nil,Nat.reduceAdd]
    refine hP 0 (v:=?_) rfl (by kernel_rfl) (by rfl) ?_ ?_
    rotate_left
    focus (intro w;go_simp;try with_reducible rfl)
    refine hP 4 (v:=?_) rfl (by kernel_rfl) (by rfl) ?_ ?_
    rotate_left
    focus (intro w;go_simp;try with_reducible rfl)
    refine hP 6 (v:=?_) rfl (by kernel_rfl) (by rfl) ?_ ?_
    rotate_left
    focus (intro w;go_simp;try with_reducible rfl)
    refine hP 9 (v:=?_) rfl (by kernel_rfl) (by rfl) ?_ ?_
    rotate_left
    focus (intro w;go_simp;try with_reducible rfl)
    refine hP 1 (v:=?_) rfl (by kernel_rfl) (by rfl) ?_ ?_
    rotate_left
    focus (intro w;go_simp;try with_reducible rfl)
    refine hT 5 [[5]] (v:=?_) rfl (by kernel_rfl) (by rfl) (by assumption) ?_ ?_
    rotate_left
    focus (intro w hSw;(try dsimp only at hSw);(have z4:=cell_later hSw c4;have z0:=cell_later hSw e0;have z2:=cell_later hSw e2;have zr:=cell_later hSw r1c);go_simp;try with_reducible rfl)
    refine hT 7 [[7]] (v:=?_) rfl (by kernel_rfl) (by rfl) (by assumption) ?_ ?_
    rotate_left
    focus (intro w hSw;(try dsimp only at hSw);(have z4:=cell_later hSw c4;have z0:=cell_later hSw e0;have z2:=cell_later hSw e2;have zr:=cell_later hSw r1c);go_simp;try with_reducible rfl)
    refine hT 10 [[10]] (v:=?_) rfl (by kernel_rfl) (by rfl) (by assumption) ?_ ?_
    rotate_left
    focus (intro w hSw;(try dsimp only at hSw);(have z4:=cell_later hSw c4;have z0:=cell_later hSw e0;have z2:=cell_later hSw e2;have zr:=cell_later hSw r1c);go_simp;try with_reducible rfl)
    refine hP 2 (v:=?_) rfl (by kernel_rfl) (by rfl) ?_ ?_
    rotate_left
    focus (intro w;go_simp;try with_reducible rfl)
    refine hT 3 [[3]] (v:=?_) rfl (by kernel_rfl) (by rfl) (by assumption) ?_ ?_
    rotate_left
    focus (intro w hSw;(try dsimp only at hSw);(have z4:=cell_later hSw c4;have z0:=cell_later hSw e0;have z2:=cell_later hSw e2;have zr:=cell_later hSw r1c);go_simp;try with_reducible rfl)
    try simp only [Act.put,List.setIfInBounds_toArray,List.set_cons_zero,List.set_cons_succ]
    refine hR [8,11] (by kernel_rfl) (by simp) (Ac.cons rfl (fun KH hKH=> ?_) (Ac.cons rfl (fun KH hKH=> ?_) .nil))
    ·go_simp
     refine hKH.out _ _ ?_ (fun hNew=> ?_)
     ·(first | exact(Below.refl _ _).drew | exact hHeld.alloc hHeld.size _ | exact hHeld.trans (b7.mono hHeld.size) | exact hHeld.trans (b6.mono hHeld.size) | exact hHeld)
     clear hKH KH hHeld
     have hHeld:=hNew
     clear hNew
     try simp only [Act.put,List.setIfInBounds_toArray,List.set_cons_zero,List.set_cons_succ]
     refine hR [11] (by kernel_rfl) (by simp) (Ac.cons rfl (fun KH hKH=> ?_) .nil)
     go_simp
     (go_at_call 84;refine(HOU6.out _ hHeld).mono ?_;rintro e w7 ⟨rfl,b6⟩)
     refine hKH.out _ _ ?_ (fun hNew=> ?_)
     ·(first | exact(Below.refl _ _).drew | exact hHeld.alloc hHeld.size _ | exact hHeld.trans (b7.mono hHeld.size) | exact hHeld.trans (b6.mono hHeld.size) | exact hHeld)
     clear hKH KH hHeld
     have hHeld:=hNew
     clear hNew
     try simp only [Act.put,List.setIfInBounds_toArray,List.set_cons_zero,List.set_cons_succ]
     refine hR [12] (by kernel_rfl) (by simp) (Ac.cons rfl (fun KH hKH=> ?_) .nil)
     go_simp
     refine hKH.out _ _ ?_ (fun hNew=> ?_)
     ·(first | exact(Below.refl _ _).drew | exact hHeld.alloc hHeld.size _ | exact hHeld.trans (b7.mono hHeld.size) | exact hHeld.trans (b6.mono hHeld.size) | exact hHeld)
     clear hKH KH hHeld
     have hHeld:=hNew
     clear hNew
     try simp only [Act.put,List.setIfInBounds_toArray,List.set_cons_zero,List.set_cons_succ]
     refine hP 13 (v:=?_) rfl (by kernel_rfl) (by rfl) ?_ ?_
     rotate_left
     focus (intro w;go_simp;try with_reducible rfl)
     try simp only [Act.put,List.setIfInBounds_toArray,List.set_cons_zero,List.set_cons_succ]
     refine hR [14] (by kernel_rfl) (by simp) (Ac.cons rfl (fun KH hKH=> ?_) .nil)
     go_simp
     (go_at_call 52;refine(HJT.out _ (by assumption) _ _ (by repeat (first | exact Gh D5 (by simp) rfl | refine Sl.N4 ?_ _ | refine Sl.later ?_ b6 (Nat.le_refl _) | refine Sl.I7 ?_)) (by repeat (first | exact Gh Cc (by simp) rfl | refine Sl.N4 ?_ _ | refine Sl.later ?_ b6 (Nat.le_refl _) | refine Sl.I7 ?_))).mono ?_;rintro e w8 ⟨rfl,b7⟩)
     refine hKH.out _ _ ?_ (fun hNew=> ?_)
     ·(first | exact(Below.refl _ _).drew | exact hHeld.alloc hHeld.size _ | exact hHeld.trans (b7.mono hHeld.size) | exact hHeld.trans (b6.mono hHeld.size) | exact hHeld)
     clear hKH KH hHeld
     have hHeld:=hNew
     clear hNew
     try simp only [Act.put,List.setIfInBounds_toArray,List.set_cons_zero,List.set_cons_succ]
     refine hP 15 (v:=?_) rfl (by kernel_rfl) (by rfl) ?_ ?_
     rotate_left
     focus (intro w;go_simp;try with_reducible rfl)
     refine hP 16 (v:=?_) rfl (by kernel_rfl) (by rfl) ?_ ?_
     rotate_left
     focus (intro w;go_simp;try with_reducible rfl)
     refine hP 17 (v:=?_) rfl (by kernel_rfl) (by rfl) ?_ ?_
     rotate_left
     focus (intro w;go_simp;try with_reducible rfl)
     try simp only [Act.put,List.setIfInBounds_toArray,List.set_cons_zero,List.set_cons_succ]
     refine hR [18] (by kernel_rfl) (by simp) (Ac.Bb rfl (by kernel_rfl) (fun KH hKH=> ?_) .nil)
     have h9:=HF6.out.later hHeld
     have HB3:=Aa hHeld
     have s4:=h9.bk.get (j:=4) rfl
     have z9:=h9.bk.fz 4
     rw [HFB3.out] at s4 z9
     have HV9:=Aa (cell_later hHeld HV3.out)
     have H9:=Aa h9
     clear h9 b6 b7 HJT HOU6
     go_simp
     refine hKH.out _ _ ?_
     clear hKH KH
     try clear hHeld
     refine Ak (by kernel_rfl) ?_ _
     refine NoPanic.normal ?_
     have hfin:=(Py HFB3.out HHO.out (fun _ _=> rfl) HKW.out HB3.out HV9.out H9.out (F.log++en)).2
     rw [←HLQ.out,HFB3.out] at hfin
     have HFIN:=Aa hfin
     clear hfin s4 z9
     go_wp2
     exact bodyPost_ret (v:= .tuple #[]) (by simp [results,Tryz.results48,go_sem]) rfl ⟨rfl,by rw [HLOG.out];exact HFIN.out⟩
    ·go_simp
     (go_at_call 84;refine(HOU6.out _ hHeld).mono ?_;rintro e w7 ⟨rfl,b6⟩)
     refine hKH.out _ _ ?_ (fun hNew=> ?_)
     ·(first | exact(Below.refl _ _).drew | exact hHeld.alloc hHeld.size _ | exact hHeld.trans (b7.mono hHeld.size) | exact hHeld.trans (b6.mono hHeld.size) | exact hHeld)
     clear hKH KH hHeld
     have hHeld:=hNew
     clear hNew
     refine hR [8,12] (by kernel_rfl) (by simp) (Ac.cons rfl (fun KH hKH=> ?_) (Ac.cons rfl (fun KH hKH=> ?_) .nil))
     ·go_simp
      refine hKH.out _ _ ?_ (fun hNew=> ?_)
      ·(first | exact(Below.refl _ _).drew | exact hHeld.alloc hHeld.size _ | exact hHeld.trans (b7.mono hHeld.size) | exact hHeld.trans (b6.mono hHeld.size) | exact hHeld)
      clear hKH KH hHeld
      have hHeld:=hNew
      clear hNew
      try simp only [Act.put,List.setIfInBounds_toArray,List.set_cons_zero,List.set_cons_succ]
      refine hR [12] (by kernel_rfl) (by simp) (Ac.cons rfl (fun KH hKH=> ?_) .nil)
      go_simp
      refine hKH.out _ _ ?_ (fun hNew=> ?_)
      ·(first | exact(Below.refl _ _).drew | exact hHeld.alloc hHeld.size _ | exact hHeld.trans (b7.mono hHeld.size) | exact hHeld.trans (b6.mono hHeld.size) | exact hHeld)
      clear hKH KH hHeld
      have hHeld:=hNew
      clear hNew
      try simp only [Act.put,List.setIfInBounds_toArray,List.set_cons_zero,List.set_cons_succ]
      refine hP 13 (v:=?_) rfl (by kernel_rfl) (by rfl) ?_ ?_
      rotate_left
      focus (intro w;go_simp;try with_reducible rfl)
      try simp only [Act.put,List.setIfInBounds_toArray,List.set_cons_zero,List.set_cons_succ]
      refine hR [14] (by kernel_rfl) (by simp) (Ac.cons rfl (fun KH hKH=> ?_) .nil)
      go_simp
      (go_at_call 52;refine(HJT.out _ (by assumption) _ _ (by repeat (first | exact Gh D5 (by simp) rfl | refine Sl.N4 ?_ _ | refine Sl.later ?_ b6 (Nat.le_refl _) | refine Sl.I7 ?_)) (by repeat (first | exact Gh Cc (by simp) rfl | refine Sl.N4 ?_ _ | refine Sl.later ?_ b6 (Nat.le_refl _) | refine Sl.I7 ?_))).mono ?_;rintro e w8 ⟨rfl,b7⟩)
      refine hKH.out _ _ ?_ (fun hNew=> ?_)
      ·(first | exact(Below.refl _ _).drew | exact hHeld.alloc hHeld.size _ | exact hHeld.trans (b7.mono hHeld.size) | exact hHeld.trans (b6.mono hHeld.size) | exact hHeld)
      clear hKH KH hHeld
      have hHeld:=hNew
      clear hNew
      try simp only [Act.put,List.setIfInBounds_toArray,List.set_cons_zero,List.set_cons_succ]
      refine hP 15 (v:=?_) rfl (by kernel_rfl) (by rfl) ?_ ?_
      rotate_left
      focus (intro w;go_simp;try with_reducible rfl)
      refine hP 16 (v:=?_) rfl (by kernel_rfl) (by rfl) ?_ ?_
      rotate_left
      focus (intro w;go_simp;try with_reducible rfl)
      refine hP 17 (v:=?_) rfl (by kernel_rfl) (by rfl) ?_ ?_
      rotate_left
      focus (intro w;go_simp;try with_reducible rfl)
      try simp only [Act.put,List.setIfInBounds_toArray,List.set_cons_zero,List.set_cons_succ]
      refine hR [18] (by kernel_rfl) (by simp) (Ac.Bb rfl (by kernel_rfl) (fun KH hKH=> ?_) .nil)
      have h9:=HF6.out.later hHeld
      have HB3:=Aa hHeld
      have s4:=h9.bk.get (j:=4) rfl
      have z9:=h9.bk.fz 4
      rw [HFB3.out] at s4 z9
      have HV9:=Aa (cell_later hHeld HV3.out)
      have H9:=Aa h9
      clear h9 b6 b7 HJT HOU6
      go_simp
      refine hKH.out _ _ ?_
      clear hKH KH
      try clear hHeld
      refine Ak (by kernel_rfl) ?_ _
      refine NoPanic.normal ?_
      have hfin:=(Py HFB3.out HHO.out (fun _ _=> rfl) HKW.out HB3.out HV9.out H9.out (F.log++en)).2
      rw [←HLQ.out,HFB3.out] at hfin
      have HFIN:=Aa hfin
      clear hfin s4 z9
      go_wp2
      exact bodyPost_ret (v:= .tuple #[]) (by simp [results,Tryz.results48,go_sem]) rfl ⟨rfl,by rw [HLOG.out];exact HFIN.out⟩
     ·go_simp
      refine hKH.out _ _ ?_ (fun hNew=> ?_)
      ·(first | exact(Below.refl _ _).drew | exact hHeld.alloc hHeld.size _ | exact hHeld.trans (b7.mono hHeld.size) | exact hHeld.trans (b6.mono hHeld.size) | exact hHeld)
      clear hKH KH hHeld
      have hHeld:=hNew
      clear hNew
      try simp only [Act.put,List.setIfInBounds_toArray,List.set_cons_zero,List.set_cons_succ]
      refine hR [8] (by kernel_rfl) (by simp) (Ac.cons rfl (fun KH hKH=> ?_) .nil)
      go_simp
      refine hKH.out _ _ ?_ (fun hNew=> ?_)
      ·(first | exact(Below.refl _ _).drew | exact hHeld.alloc hHeld.size _ | exact hHeld.trans (b7.mono hHeld.size) | exact hHeld.trans (b6.mono hHeld.size) | exact hHeld)
      clear hKH KH hHeld
      have hHeld:=hNew
      clear hNew
      try simp only [Act.put,List.setIfInBounds_toArray,List.set_cons_zero,List.set_cons_succ]
      refine hP 13 (v:=?_) rfl (by kernel_rfl) (by rfl) ?_ ?_
      rotate_left
      focus (intro w;go_simp;try with_reducible rfl)
      try simp only [Act.put,List.setIfInBounds_toArray,List.set_cons_zero,List.set_cons_succ]
      refine hR [14] (by kernel_rfl) (by simp) (Ac.cons rfl (fun KH hKH=> ?_) .nil)
      go_simp
      (go_at_call 52;refine(HJT.out _ (by assumption) _ _ (by repeat (first | exact Gh D5 (by simp) rfl | refine Sl.N4 ?_ _ | refine Sl.later ?_ b6 (Nat.le_refl _) | refine Sl.I7 ?_)) (by repeat (first | exact Gh Cc (by simp) rfl | refine Sl.N4 ?_ _ | refine Sl.later ?_ b6 (Nat.le_refl _) | refine Sl.I7 ?_))).mono ?_;rintro e w8 ⟨rfl,b7⟩)
      refine hKH.out _ _ ?_ (fun hNew=> ?_)
      ·(first | exact(Below.refl _ _).drew | exact hHeld.alloc hHeld.size _ | exact hHeld.trans (b7.mono hHeld.size) | exact hHeld.trans (b6.mono hHeld.size) | exact hHeld)
      clear hKH KH hHeld
      have hHeld:=hNew
      clear hNew
      try simp only [Act.put,List.setIfInBounds_toArray,List.set_cons_zero,List.set_cons_succ]
      refine hP 15 (v:=?_) rfl (by kernel_rfl) (by rfl) ?_ ?_
      rotate_left
      focus (intro w;go_simp;try with_reducible rfl)
      refine hP 16 (v:=?_) rfl (by kernel_rfl) (by rfl) ?_ ?_
      rotate_left
      focus (intro w;go_simp;try with_reducible rfl)
      refine hP 17 (v:=?_) rfl (by kernel_rfl) (by rfl) ?_ ?_
      rotate_left
      focus (intro w;go_simp;try with_reducible rfl)
      try simp only [Act.put,List.setIfInBounds_toArray,List.set_cons_zero,List.set_cons_succ]
      refine hR [18] (by kernel_rfl) (by simp) (Ac.Bb rfl (by kernel_rfl) (fun KH hKH=> ?_) .nil)
      have h9:=HF6.out.later hHeld
      have HB3:=Aa hHeld
      have s4:=h9.bk.get (j:=4) rfl
      have z9:=h9.bk.fz 4
      rw [HFB3.out] at s4 z9
      have HV9:=Aa (cell_later hHeld HV3.out)
      have H9:=Aa h9
      clear h9 b6 b7 HJT HOU6
      go_simp
      refine hKH.out _ _ ?_
      clear hKH KH
      try clear hHeld
      refine Ak (by kernel_rfl) ?_ _
      refine NoPanic.normal ?_
      have hfin:=(Py HFB3.out HHO.out (fun _ _=> rfl) HKW.out HB3.out HV9.out H9.out (F.log++en)).2
      rw [←HLQ.out,HFB3.out] at hfin
      have HFIN:=Aa hfin
      clear hfin s4 z9
      go_wp2
      exact bodyPost_ret (v:= .tuple #[]) (by simp [results,Tryz.results48,go_sem]) rfl ⟨rfl,by rw [HLOG.out];exact HFIN.out⟩
end
end Go.Proofs.YtbibeionenjmfaaGreatDoor
