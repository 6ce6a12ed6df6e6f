/- The floor: Work. -/
import Derived.Test.YtbibeionenjmfaaGreatDoorFlTake
import Derived.Test.YtbibeionenjmfaaGreatDoorJour
set_option linter.unusedSimpArgs false
set_option linter.unusedVariables false
namespace Go.Proofs.YtbibeionenjmfaaGreatDoor
open Go.RowKit
theorem F6 {α:Type} {sz:Nat} {enc:α→List Value} {e:TypeId} {w:World} {n:Nat} {cs:Array Value} {l:List α} (hsz:∀ x,(enc x).length=sz) (hn:n=w.heap.size) (hc:cs.toList=l.flatMap enc):Sl sz enc (w.alloc (.cells cs e)) (some ⟨n,0,none⟩) l:=by
 subst hn;exact Sl.lit hsz (Bt _ _) hc
theorem Sl.Nl {α:Type} {sz:Nat} {enc:α→List Value} {w:World} {a:Option Addr} {l:List α} (h:Sl sz enc w a l) (o:Obj):Sl sz enc (w.alloc o) a l:=h.later (ba w o) (Nat.le_refl _)
theorem Mo (F:Ad) (q:Int) (prog inp:List UInt8) (size:Int):((Ex F q prog inp size).1≠0∧(Ex F q prog inp size).2=F)∨
 ((Ex F q prog inp size).1=0∧(0≤q∧q < F.Al.length)∧(1≤size∧size≤60)∧(Ex F q prog inp size).2.Aj.length=F.Aj.length+1∧(Ex F q prog inp size).2.log=F.log):=by
 unfold Ex
 by_cases h1:q < 0∨(F.Al.length:Int)≤q
 ·rw [if_pos h1];exact .inl ⟨by simp,rfl⟩
 ·rw [if_neg h1]
  by_cases h2:F.Aj.length=6
  ·rw [if_pos h2];exact .inl ⟨by simp,rfl⟩
  ·rw [if_neg h2]
   cases N6 prog with
   | none=> refine .inl ⟨?_,rfl⟩;dsimp only;unfold Wb;split <;> simp
   | some x=>
     obtain⟨rv,fold,slices,early⟩:=x
     dsimp only
     by_cases h3:Ns inp≠0
     ·rw [if_pos h3];exact .inl ⟨h3,rfl⟩
     ·rw [if_neg h3]
      by_cases h4:size < 1∨60 < size
      ·rw [if_pos h4];exact .inl ⟨by simp,rfl⟩
      ·rw [if_neg h4];exact .inr ⟨rfl,⟨by omega,by omega⟩,⟨by omega,by omega⟩,by simp,rfl⟩
theorem Sr {k:ByteArray} {N:List Int} {T:List ByteArray} (hk:k.size≤1000000) (hN:Ag5 N) (hNl:N.length≤10000) (hTl:T.length≤10000) (hT:∀ t∈T,t.size≤10000000):(tx (Kt (k,N,T))).size≤110000000000:=by
 have h1:=Ku N hN
 have h2:=Ku (C4 T) (Ra hT)
 have h3:=M7 T hT
 have h4:(C4 T).length=T.length:=by simp [C4]
 have h5:k.data.toList.length=k.size:=Fi _
 rw [Ak]
 unfold Kt
 simp only [List.length_append,List.length_cons,List.length_nil]
 omega
theorem Ps {w0 w w1 w3:World} {own own1:Nat→Eu} {G G1:Bb} {F1:Ad} {v:Value} (hfb:G1.fb=G.fb) (ho:own G.fb= .hd) (ha:∀ q,q < w.heap.size→own1 q=own q) (k1:Ab (fun q=> own q≠ .out) w w1) (b3:Below w1.heap.size w1 w3) (hv:w3.cell? ⟨G1.fb,3,none⟩=some v) (h:Bv w0 w3 own1 G1 F1) (l:List UInt8):
 (w3.setCell ⟨G1.fb,4,none⟩ (.string (tx l))).cell? ⟨G1.fb,3,none⟩=some v∧B3 w0 w own G {F1 with log:=l} (w3.setCell ⟨G1.fb,4,none⟩ (.string (tx l))):=by
 have hl:=h.Ank l
 have k:Ab (fun q=> q=G1.fb) w3 (w3.setCell ⟨G1.fb,4,none⟩ (.string (tx l))):=(Ab.refl (fun q=> q=G1.fb) w3).setCell (p:=⟨G1.fb,4,none⟩) rfl _
 refine⟨?_,⟨own1,G1,hl,hfb,ha⟩,(k1.more (Ab.Ag (S:=fun _=> False) b3 (Nat.le_refl _)) fun _ e=> e.elim).more k fun q hq=> .inl (by rw [hq,hfb,ho];simp)⟩
 exact(World.cell?_setCell_other w3 _ _ _ (by simp)).trans hv
section
variable {w0 w w' W:World} {own own':Nat→Eu} {G:Bb} {F F':Ad}
set_option maxRecDepth 100000 in
set_option maxHeartbeats 4000000 in
theorem R7 (q size:Int) (prog inp:List UInt8) (h:Bv w0 w own G F) (hi:Fz F) (hlg:F.log.length≤1000000000000000000) (hpl:prog.length≤100000) (hil:inp.length≤1000000) (hsz:size≤9223372036854775807):
 Calls Tryz.prog 21 #[.pointer (some ⟨G.fb,0,none⟩), .int .i64 q, .string (tx prog), .string (tx inp), .int .i64 size] w fun e w'=> e= .returned (.tuple #[.int .i64 (Cx F q prog inp size).1.1,Ed (Cx F q prog inp size).1.2])∧B3 w0 w own G (Cx F q prog inp size).2 w':=by
 have HT:=Aa (Ahy q size prog inp h hi hpl hil hsz)
 have HH:=Aa h
 have HLG:=Aa hlg
 have HO:=Aa h.oh
 have HPL:=Aa hpl
 have HIL:=Aa hil
 clear h hlg
 go_enter Tryz.func21,Tryz.ntmps21
 go_wp2_with fail
 refine HT.out.mono ?_
 rintro e w1 ⟨rfl,ht⟩
 have HSU:Hid (Cx F q prog inp size=if (Ex F q prog inp size).1≠0 then((0,(Ex F q prog inp size).1),F) else(((F.Aj.length:Int),0),{(Ex F q prog inp size).2 with log:=F.log++Kt (tx Vd, [q,size], [tx prog,tx inp])})):=rfl
 have HTC:=Aa (Mo F q prog inp size)
 clear HT
 generalize Ex F q prog inp size=r at *
 obtain⟨er,F1⟩:=r
 dsimp only at ht HSU HTC ⊢
 rcases HTC.out with ⟨h1,rfl⟩ | ⟨rfl,h2,h3,h4,h5⟩
 ·rw [if_pos h1] at HSU
  rw [A0 h1]
  have HE:Hid (Ed er= .iface 91 (.int .i64 er)):=A0 h1
  have HT1:=Aa ht
  clear ht hsz
  go_wp2
  exact bodyPost_ret (v:= .tuple #[.int .i64 0, .iface 91 (.int .i64 er)]) (by simp [results,Tryz.results21,go_sem]) rfl ⟨by rw [HSU.out,HE.out],by rw [HSU.out];exact HT1.out⟩
 ·rw [if_neg (by simp)] at HSU
  rw [A2]
  obtain⟨⟨own1,G1,hf,hfb,hag⟩,k1⟩:=ht
  rw [←hfb]
  have c4:=hf.bk.get (j:=4) rfl
  have c3:=hf.bk.get (j:=3) rfl
  rw [h5] at c4
  have hj:=hf.Y3
  obtain⟨ja,jc,ej,_⟩:=hj
  rw [ej,h4] at c3
  have z4:=hf.bk.fz 4
  have hq4:=(Aeo hi.qs).1
  have HI6:Hid (Ag5 [q,size]):=by
   intro x hx
   simp at hx
   rcases hx with rfl | rfl <;> constructor <;> omega
  have HT6:Hid (∀ t∈ [tx prog,tx inp],t.size≤10000000):=by
   intro t ht
   simp at ht
   rcases ht with rfl | rfl <;> rw [Ak] <;> omega
  have HJT:=Aa fun(w':World) (k:Below w1.heap.size w1 w') (na ta:Option Addr) (hs1:Sl 1 Fe w' na [q,size]) (hs2:Sl 1 C8 w' ta [tx prog,tx inp])=> Vy (tx Vd) na 2 [q,size] ta 2 [tx prog,tx inp] w' (hf.gwl.later k (Nat.le_refl _)) (by decide) (by simp) (by simp) HI6.out HT6.out hs1 hs2 (by simp)
  have HF:=Aa hf
  have EJ:=Aa ej
  have HJL:=Aa h4
  have HLG1:=Aa h5
  have hjb:F.Aj.length+1≤1000:=by have:=hi.jl;omega
  have hjw:IntKind.i64.wrap (((F.Aj.length+1:Nat):Int) - 1)=(F.Aj.length:Int):=by
   rw [show(((F.Aj.length+1:Nat):Int) - 1)=(F.Aj.length:Int) by omega]
   exact IntWalk.i64_in _ (by omega)
  have HK1:=Aa k1
  have HAG:=Aa hag
  have HFB:=Aa hfb
  clear hf k1 hag hfb h2 h3 h4 h5 ej hsz hpl hil hi
  have hcat:¬ 9223372036854775807 < (tx F.log).size+(tx (Kt (tx Vd, [q,size], [tx prog,tx inp]))).size:=by
   have h6:=Sr (k:=tx Vd) (N:= [q,size]) (T:= [tx prog,tx inp]) (by decide) HI6.out (by simp) (by simp) HT6.out
   have h7:=HLG.out
   rw [Ak (l:=F.log)]
   omega
  have HLQ:Hid (tx F.log++tx (Kt (tx Vd, [q,size], [tx prog,tx inp]))=tx (F.log++Kt (tx Vd, [q,size], [tx prog,tx inp]))):=by
   show _=_
   apply C6
   rw [tl,tl,An]
   simp [tx,ByteArray.data_append]
  clear HI6 HT6 hq4
  generalize Kt (tx Vd, [q,size], [tx prog,tx inp])=en at *
  obtain⟨lg,hlg⟩:∃ lg,lg=tx F.log:=⟨_,rfl⟩
  obtain⟨ent,hent⟩:∃ ent,ent=tx en:=⟨_,rfl⟩
  rw [←hlg,←hent] at hcat HLQ
  rw [←hlg] at c4
  rw [←hent] at HJT
  clear hlg hent
  go_upto_region 4 with (fail)
  refine wp_region_noPanic ?_
  refine Ah (S:=(fun w'=> Below w1.heap.size w1 w')) (E:= [15]) (by kernel_rfl) ?_ (fun hHeld=> ?_)
  ·(first | exact(Below.refl _ _).drew | exact hHeld.alloc hHeld.size _ | exact hHeld.trans (b3.mono hHeld.size) | exact hHeld)
  try dsimp only [List.size_toArray,List.length_cons,List.length_nil,Nat.reduceAdd]
  refine hP 0 (v:=?_) rfl (by kernel_rfl) (by rfl) ?_ ?_
  rotate_left
  focus (intro w;go_simp;try with_reducible rfl)
  refine hP 4 (v:=?_) rfl (by kernel_rfl) (by rfl) ?_ ?_
  rotate_left
  focus (intro w;go_simp;try with_reducible rfl)
  refine hP 5 (v:=?_) rfl (by kernel_rfl) (by rfl) ?_ ?_
  rotate_left
  focus (intro w;go_simp;try with_reducible rfl)
  refine hP 7 (v:=?_) rfl (by kernel_rfl) (by rfl) ?_ ?_
  rotate_left
  focus (intro w;go_simp;try with_reducible rfl)
  refine hP 8 (v:=?_) rfl (by kernel_rfl) (by rfl) ?_ ?_
  rotate_left
  focus (intro w;go_simp;try with_reducible rfl)
  refine hP 1 (v:=?_) rfl (by kernel_rfl) (by rfl) ?_ ?_
  rotate_left
  focus (intro w;go_simp;try with_reducible rfl)
  refine hP 2 (v:=?_) rfl (by kernel_rfl) (by rfl) ?_ ?_
  rotate_left
  focus (intro w;go_simp;try with_reducible rfl)
  refine hT 3 [[3]] (v:=?_) rfl (by kernel_rfl) (by rfl) (by assumption) ?_ ?_
  rotate_left
  focus (intro w hSw;(try dsimp only at hSw);(have t3:=cell_later hSw c4);go_simp;try with_reducible rfl)
  try simp only [Act.put,List.setIfInBounds_toArray,List.set_cons_zero,List.set_cons_succ]
  refine hR [6,9] (by kernel_rfl) (by simp) (Ac.cons rfl (fun KH hKH=> ?_) (Ac.cons rfl (fun KH hKH=> ?_) .nil))
  ·go_simp
   refine hKH.out _ _ ?_ (fun hNew=> ?_)
   ·(first | exact(Below.refl _ _).drew | exact hHeld.alloc hHeld.size _ | exact hHeld.trans (b3.mono hHeld.size) | exact hHeld)
   clear hKH KH hHeld
   have hHeld:=hNew
   clear hNew
   try simp only [Act.put,List.setIfInBounds_toArray,List.set_cons_zero,List.set_cons_succ]
   refine hR [9] (by kernel_rfl) (by simp) (Ac.cons rfl (fun KH hKH=> ?_) .nil)
   go_simp
   refine hKH.out _ _ ?_ (fun hNew=> ?_)
   ·(first | exact(Below.refl _ _).drew | exact hHeld.alloc hHeld.size _ | exact hHeld.trans (b3.mono hHeld.size) | exact hHeld)
   clear hKH KH hHeld
   have hHeld:=hNew
   clear hNew
   try simp only [Act.put,List.setIfInBounds_toArray,List.set_cons_zero,List.set_cons_succ]
   refine hP 10 (v:=?_) rfl (by kernel_rfl) (by rfl) ?_ ?_
   rotate_left
   focus (intro w;go_simp;try with_reducible rfl)
   try simp only [Act.put,List.setIfInBounds_toArray,List.set_cons_zero,List.set_cons_succ]
   refine hR [11] (by kernel_rfl) (by simp) (Ac.cons rfl (fun KH hKH=> ?_) .nil)
   go_simp
   (go_at_call 52;refine(HJT.out _ (by assumption) _ _ (by repeat (first | exact F6 Dz (by simp) rfl | refine Sl.Nl ?_ _)) (by repeat (first | exact F6 Cz (by simp) rfl | refine Sl.Nl ?_ _))).mono ?_;rintro e w3 ⟨rfl,b3⟩)
   refine hKH.out _ _ ?_ (fun hNew=> ?_)
   ·(first | exact(Below.refl _ _).drew | exact hHeld.alloc hHeld.size _ | exact hHeld.trans (b3.mono hHeld.size) | exact hHeld)
   clear hKH KH hHeld
   have hHeld:=hNew
   clear hNew
   try simp only [Act.put,List.setIfInBounds_toArray,List.set_cons_zero,List.set_cons_succ]
   refine hP 12 (v:=?_) rfl (by kernel_rfl) (by rfl) ?_ ?_
   rotate_left
   focus (intro w;go_simp;try with_reducible rfl)
   refine hP 13 (v:=?_) rfl (by kernel_rfl) (by rfl) ?_ ?_
   rotate_left
   focus (intro w;go_simp;try with_reducible rfl)
   refine hP 14 (v:=?_) rfl (by kernel_rfl) (by rfl) ?_ ?_
   rotate_left
   focus (intro w;go_simp;try with_reducible rfl)
   try simp only [Act.put,List.setIfInBounds_toArray,List.set_cons_zero,List.set_cons_succ]
   refine hR [15] (by kernel_rfl) (by simp) (Ac.A7 rfl (by kernel_rfl) (fun KH hKH=> ?_) .nil)
   have h9:=HF.out.later hHeld
   have HB3:=Aa hHeld
   have s4:=h9.bk.get (j:=4) rfl
   have z9:=h9.bk.fz 4
   have s3:=h9.bk.get (j:=3) rfl
   rw [EJ.out,HJL.out] at s3
   have H9:=Aa h9
   have HLF:=Aa s3
   clear h9 b3 HF HJT
   go_simp
   refine hKH.out _ _ ?_
   clear hKH KH
   try clear hHeld
   refine Ai (by kernel_rfl) ?_ _
   refine NoPanic.normal ?_
   obtain⟨W9,hW9⟩:∃ W9,W9=w3.setCell ⟨G1.fb,4,none⟩ (.string (lg++ent)):=⟨_,rfl⟩
   have hfin:=Ps HFB.out HO.out HAG.out HK1.out HB3.out HLF.out H9.out (F.log++en)
   rw [←HLQ.out,←hW9] at hfin
   rw [←hW9]
   have s3':=hfin.1
   have HFIN:=Aa hfin.2
   clear hW9 hfin
   go_wp2
   exact bodyPost_ret (v:= .tuple #[.int .i64 F.Aj.length, .nilIface]) (by simp [results,Tryz.results21,go_sem,hjw]) rfl ⟨by rw [HSU.out];rfl,by rw [HSU.out];exact HFIN.out⟩
  ·go_simp
   refine hKH.out _ _ ?_ (fun hNew=> ?_)
   ·(first | exact(Below.refl _ _).drew | exact hHeld.alloc hHeld.size _ | exact hHeld.trans (b3.mono hHeld.size) | exact hHeld)
   clear hKH KH hHeld
   have hHeld:=hNew
   clear hNew
   try simp only [Act.put,List.setIfInBounds_toArray,List.set_cons_zero,List.set_cons_succ]
   refine hR [6] (by kernel_rfl) (by simp) (Ac.cons rfl (fun KH hKH=> ?_) .nil)
   go_simp
   refine hKH.out _ _ ?_ (fun hNew=> ?_)
   ·(first | exact(Below.refl _ _).drew | exact hHeld.alloc hHeld.size _ | exact hHeld.trans (b3.mono hHeld.size) | exact hHeld)
   clear hKH KH hHeld
   have hHeld:=hNew
   clear hNew
   try simp only [Act.put,List.setIfInBounds_toArray,List.set_cons_zero,List.set_cons_succ]
   refine hP 10 (v:=?_) rfl (by kernel_rfl) (by rfl) ?_ ?_
   rotate_left
   focus (intro w;go_simp;try with_reducible rfl)
   try simp only [Act.put,List.setIfInBounds_toArray,List.set_cons_zero,List.set_cons_succ]
   refine hR [11] (by kernel_rfl) (by simp) (Ac.cons rfl (fun KH hKH=> ?_) .nil)
   go_simp
   (go_at_call 52;refine(HJT.out _ (by assumption) _ _ (by repeat (first | exact F6 Dz (by simp) rfl | refine Sl.Nl ?_ _)) (by repeat (first | exact F6 Cz (by simp) rfl | refine Sl.Nl ?_ _))).mono ?_;rintro e w3 ⟨rfl,b3⟩)
   refine hKH.out _ _ ?_ (fun hNew=> ?_)
   ·(first | exact(Below.refl _ _).drew | exact hHeld.alloc hHeld.size _ | exact hHeld.trans (b3.mono hHeld.size) | exact hHeld)
   clear hKH KH hHeld
   have hHeld:=hNew
   clear hNew
   try simp only [Act.put,List.setIfInBounds_toArray,List.set_cons_zero,List.set_cons_succ]
   refine hP 12 (v:=?_) rfl (by kernel_rfl) (by rfl) ?_ ?_
   rotate_left
   focus (intro w;go_simp;try with_reducible rfl)
   refine hP 13 (v:=?_) rfl (by kernel_rfl) (by rfl) ?_ ?_
   rotate_left
   focus (intro w;go_simp;try with_reducible rfl)
   refine hP 14 (v:=?_) rfl (by kernel_rfl) (by rfl) ?_ ?_
   rotate_left
   focus (intro w;go_simp;try with_reducible rfl)
   try simp only [Act.put,List.setIfInBounds_toArray,List.set_cons_zero,List.set_cons_succ]
   refine hR [15] (by kernel_rfl) (by simp) (Ac.A7 rfl (by kernel_rfl) (fun KH hKH=> ?_) .nil)
   have h9:=HF.out.later hHeld
   have HB3:=Aa hHeld
   have s4:=h9.bk.get (j:=4) rfl
   have z9:=h9.bk.fz 4
   have s3:=h9.bk.get (j:=3) rfl
   rw [EJ.out,HJL.out] at s3
   have H9:=Aa h9
   have HLF:=Aa s3
   clear h9 b3 HF HJT
   go_simp
   refine hKH.out _ _ ?_
   clear hKH KH
   try clear hHeld
   refine Ai (by kernel_rfl) ?_ _
   refine NoPanic.normal ?_
   obtain⟨W9,hW9⟩:∃ W9,W9=w3.setCell ⟨G1.fb,4,none⟩ (.string (lg++ent)):=⟨_,rfl⟩
   have hfin:=Ps HFB.out HO.out HAG.out HK1.out HB3.out HLF.out H9.out (F.log++en)
   rw [←HLQ.out,←hW9] at hfin
   rw [←hW9]
   have s3':=hfin.1
   have HFIN:=Aa hfin.2
   clear hW9 hfin
   go_wp2
   exact bodyPost_ret (v:= .tuple #[.int .i64 F.Aj.length, .nilIface]) (by simp [results,Tryz.results21,go_sem,hjw]) rfl ⟨by rw [HSU.out];rfl,by rw [HSU.out];exact HFIN.out⟩
end
end Go.Proofs.YtbibeionenjmfaaGreatDoor
namespace Go.Proofs.YtbibeionenjmfaaGreatDoor
open Go.RowKit
theorem I7 {P:Program} {w:World} {ops:Array Oper} {rest:List Oper} {o:Oper} {a:Act} {Q:Exit→Act→World→Prop} (hg:o.guard=none) (hd:o.dst=none) (m x:Operand) (t k:TypeId) (hop:o.op=Op.call {callee:=Callee.builtin Builtin.delete,args:= #[m,x],argTypes:= #[t,k]}) (bb:Nat) (key:Value)
 (hm:a.eval m= .map (some bb)) (hx:a.eval x=key) {w':World} (hrun:(Builtin.delete_ #[t,k] o.type #[.map (some bb),key]).run P w= .ok (.tuple #[]) w')
 (hK:wpList P ops Q rest a w'):wpList P ops Q (o::rest) a w:=by
 refine U5 hg m x t k hop bb key hm hx hrun ?_
 rw [hd]
 exact hK
theorem Sl.Je {α:Type} {sz:Nat} {enc:α→List Value} {w:World} {a:Option Addr} {l:List α} (h:Sl sz enc w a l):Sl sz enc w.drew a l:=h
def U3 (F:Ad) (a b:Nat) (t:Eg) (st2:Bool):Ad:=
 if st2=true then Aq F a b D4 else
 let F2:=setOf (Aq F a b D4) t (Ew a)
 if t.2.1=true then {F2 with log:=F2.log++Kt (tx Uv, [(t.1:Int),(t.2.2:Int)], [(((F.Aj[t.1]?).bind fun o=> o.out[t.2.2]?).getD (tx []))])} else F2
section
variable {w0 w w' W:World} {own own1:Nat→Eu} {G:Bb} {F F':Ad} {n:Nat} {g:El} {o:Bg}
set_option maxRecDepth 100000 in
set_option maxHeartbeats 4000000 in
theorem Zx {a b i:Nat} {fo:Bool} {t:F3} {v:Value} {p:As} (h:Bv w0 w own G F) (hi:Fz F) (ht:Aw F a b=some t) (hon:t.on=true) (hte:t.t=(n,fo,i)) (hv:G.rf (Bz a b)=some v) (ho:F.Aj[n]?=some o) (hp:(Er o fo)[i]?=some p) (hat:t.at_=p.many) (hou:o.out=Of o.rs o.fold o.slices o.lines) (hlg:F.log.length≤1000000000000000000) (ha:a < 4) (hb:b < 3):
 Calls Tryz.prog 48 #[.pointer (some ⟨G.fb,0,none⟩), .agg #[.int .i64 a, .int .i64 b], .agg #[.int .i64 n, .bool fo, .int .i64 i],v] w fun e w'=> e= .returned (.tuple #[])∧B3 w0 w own G (U3 F a b (n,fo,i) (decide (p.st=2))) w':=by
 obtain⟨v',g,o',hv',hg,ho',hr⟩:=h.rr a b t ht hon
 rw [hv] at hv'
 cases hv'
 rw [hte] at hg ho' hr
 dsimp only at hg ho'
 rw [ho] at ho'
 cases ho'
 obtain⟨r0,r1,hvr⟩:∃ r0 r1:Option Addr,v= .agg #[.pointer r0, .pointer r1]:=by
  exact hr.shape
 subst hvr
 obtain⟨W,hW⟩:∃ W,W=((w.alloc (.cells #[.int .i64 a, .int .i64 b] 60)).alloc (.cells #[.int .i64 n, .bool fo, .int .i64 i] 33)).alloc (.cells #[.pointer r0, .pointer r1] 112):=⟨_,rfl⟩
 have hb0:Below w.heap.size w W:=by rw [hW];exact((ba w _).alloc (by simp) _).alloc (by simp;omega) _
 have hpb:Bk W w.heap.size [.int .i64 a, .int .i64 b]:=by rw [hW];exact((Bk.new rfl).alloc _).alloc _
 have htb:Bk W (w.heap.size+1) [.int .i64 n, .bool fo, .int .i64 i]:=by
  rw [hW]
  have:=(Bk.new (w:=w.alloc (.cells #[.int .i64 a, .int .i64 b] 60)) (cs:= #[.int .i64 n, .bool fo, .int .i64 i]) (t:=33) rfl).alloc (.cells #[.pointer r0, .pointer r1] 112)
  simpa using this
 have hrb:Bk W (w.heap.size+2) [.pointer r0, .pointer r1]:=by
  rw [hW]
  have:=Bk.new (w:=(w.alloc (.cells #[.int .i64 a, .int .i64 b] 60)).alloc (.cells #[.int .i64 n, .bool fo, .int .i64 i] 33)) (cs:= #[.pointer r0, .pointer r1]) (t:=112) rfl
  simpa using this
 have hW1:=h.later hb0
 have HWS:Hid (w.heap.size+3≤W.heap.size):=by rw [hW];show _≤_;simp
 have HH:=Aa h
 have HB0:=Aa hb0
 have HPB:=Aa hpb
 have HTB:=Aa htb
 have HRB:=Aa hrb
 have HRI:=Aa (hr.kept (Ab.Ag (S:=fun _=> False) hb0 (Nat.le_refl _)) fun q e=> e.elim)
 have q0:=hpb.get (j:=0) rfl
 have q1:=hpb.get (j:=1) rfl
 have c1:=hW1.bk.get (j:=1) rfl
 have HW:=Aa hW
 clear hW h hb0 hpb htb hrb hW1 hr
 go_enter Tryz.func48,Tryz.ntmps48
 go_upto_region 1 with (fail)
 rw [←HW.out]
 clear HW
 have HFB:Hid (∀ w',Below W.heap.size W w'→Calls Tryz.prog 82 #[.pointer (some ⟨G.bb,0,none⟩), .agg #[.int .i64 a, .int .i64 b]] w' fun e w1=> e= .returned (.tuple #[.agg #[.int .i64 n, .bool fo, .int .i64 i], .nilIface])∧Ab (fun q=> own q= .Gl) W w1∧Bv w0 w1 own G (Aq F a b D4)):=fun w' hb=> by
  have:=Ajr (HH.out.later (HB0.out.trans (hb.mono HB0.out.size))) ht hon
  rw [hte] at this
  refine this.mono ?_
  rintro e w1 ⟨e1,k,hf⟩
  exact⟨e1,(Ab.Ag (S:=fun q=> own q= .Gl) hb (Nat.le_refl _)).trans k,hf⟩
 refine wp_region_noPanic ?_
 refine Ah (S:=(fun w'=> Below W.heap.size W w')) (E:= [5,6,7,8]) (by kernel_rfl) ?_ (fun hHeld=> ?_)
 ·(first | exact(Below.refl _ _).drew | exact hHeld)
 try dsimp only [List.size_toArray,List.length_cons,List.length_nil,Nat.reduceAdd]
 refine hP 0 (v:=?_) rfl (by kernel_rfl) (by rfl) ?_ ?_
 rotate_left
 focus (intro w;go_simp;try with_reducible rfl)
 refine hT 4 [[4], [5,4], [6,5,4], [6,5,4]] (v:=?_) rfl (by kernel_rfl) (by rfl) (by assumption) ?_ ?_
 rotate_left
 focus (intro w hSw;(try dsimp only at hSw);(have t0:=cell_later hSw q0;have t1:=cell_later hSw q1;have t2:=cell_later hSw c1);go_simp;try with_reducible rfl)
 refine hP 1 (v:=?_) rfl (by kernel_rfl) (by rfl) ?_ ?_
 rotate_left
 focus (intro w;go_simp;try with_reducible rfl)
 refine hP 2 (v:=?_) rfl (by kernel_rfl) (by rfl) ?_ ?_
 rotate_left
 focus (intro w;go_simp;try with_reducible rfl)
 refine hT 3 [[3], [5,3], [6,5,3], [6,5,3]] (v:=?_) rfl (by kernel_rfl) (by rfl) (by assumption) ?_ ?_
 rotate_left
 focus (intro w hSw;(try dsimp only at hSw);(have t0:=cell_later hSw q0;have t1:=cell_later hSw q1;have t2:=cell_later hSw c1);go_simp;try with_reducible rfl)
 try simp only [Act.put,List.setIfInBounds_toArray,List.set_cons_zero,List.set_cons_succ]
 refine hR [5] (by kernel_rfl) (by simp) (Ac.A7 rfl (by kernel_rfl) (fun KH hKH=> ?_) .nil)
 go_simp
 (go_at_call 82;refine(HFB.out _ hHeld).mono ?_;rintro e w1 ⟨rfl,hk1,h1⟩)
 refine hKH.out _ _ ?_
 clear hKH KH
 try clear hHeld
 try simp only [Act.put,List.setIfInBounds_toArray,List.set_cons_zero,List.set_cons_succ]
 refine hP 6 (v:=?_) rfl (by kernel_rfl) (by rfl) ?_ ?_
 rotate_left
 focus (intro w;go_simp;try with_reducible rfl)
 refine hP 7 (v:=?_) rfl (by kernel_rfl) (by rfl) ?_ ?_
 rotate_left
 focus (intro w;go_simp;try with_reducible rfl)
 refine hP 8 (v:=?_) rfl (by kernel_rfl) (by rfl) ?_ ?_
 rotate_left
 focus (intro w;go_simp;try with_reducible rfl)
 try simp only [Act.put,List.setIfInBounds_toArray,List.set_cons_zero,List.set_cons_succ]
 refine Ai (by kernel_rfl) ?_ _
 refine NoPanic.normal ?_
 have ho0:own w.heap.size= .out:=HH.out.Dg (Nat.le_refl _)
 have ho1:own (w.heap.size+1)= .out:=HH.out.Dg (by omega)
 have ho2:own (w.heap.size+2)= .out:=HH.out.Dg (by omega)
 obtain⟨w2,hrun2,h2,k2⟩:=(h1.later (below_drewN (Below.refl _ _) 1)).Alj (a:=a) (b:=b) (J2 (by omega)) (J2 (by omega)) (fun a' b' t' e1 e2 e3=> by
  have ea:a'=a:=by omega
  have eb:b'=b:=by omega
  subst ea eb
  rw [Da,if_pos ⟨rfl,rfl⟩,ht] at e3
  cases e3;rfl) 0
 have K2:Ab (fun q=> own q= .Gl∨own q= .runs) W w2:=((hk1.mono fun q hq=> .inl hq).trans (Ab.Ag (S:=fun q=> own q= .Gl∨own q= .runs) (below_drewN (Below.refl w1.heap.size w1) 1) (Nat.le_refl _))).trans (k2.mono fun q hq=> .inr hq)
 have hp1:=HPB.out.kept hk1 (by rw [ho0];simp)
 have s0:=hp1.get (j:=0) rfl
 have s1:=hp1.get (j:=1) rfl
 have cm:=h1.bk.get (j:=2) rfl
 have HR2:=Aa hrun2
 clear hrun2 k2
 go_upto_region 2 with (fail)
 refine Bi 5 (by kernel_rfl) (by kernel_rfl) ?_
 simp only [List.take_succ_cons,List.take_zero,List.drop_succ_cons,List.drop_zero]
 repeat still_step
 refine wpStill_nil ?_
 go_wp2_with (at_delete;refine I7 rfl rfl _ _ 87 60 rfl G.mb (Bz a b) rfl rfl HR2.out ?_)
 have hne:∀ {q:Nat},own q= .out→¬ (own q= .Gl∨own q= .runs):=fun {q} e=> by rw [e];simp
 have hpb2:=HPB.out.kept K2 (hne ho0)
 have htb2:=HTB.out.kept K2 (hne ho1)
 have hrb2:=HRB.out.kept K2 (hne ho2)
 have hri2:=HRI.out.kept K2 fun q hq=> by rcases hq with e | e <;> rw [e] <;> simp
 obtain⟨F1,hF1⟩:∃ F1,F1=Aq F a b D4:=⟨_,rfl⟩
 rw [←hF1] at h2
 have hoF:F1.Aj[n]?=some o:=by rw [hF1];exact ho
 obtain⟨g',gb,cap,hg',ej,cn,hjc,hgb⟩:=h2.T4 hoF
 rw [show({G with rf:=L7 G.rf (.agg #[.int .i64 (a:Int), .int .i64 (b:Int)]) none}:Bb).jg=G.jg from rfl] at hg'
 rw [hg] at hg'
 obtain rfl:=Option.some.inj hg'
 have hnl:=(List.getElem?_eq_some_iff.1 hoF).1
 have f1:(n:Int) < (F1.Aj.length:Int):=by omega
 have cj:w2.cell? ⟨G.fb,3,none⟩=some (.slice (some ⟨gb,0,none⟩) F1.Aj.length cap):=by
  have:=h2.bk.get (j:=3) rfl
  rw [ej] at this
  exact this
 have t0:=htb2.get (j:=0) rfl
 have t1:=htb2.get (j:=1) rfl
 have t2:=htb2.get (j:=2) rfl
 have p0:=hpb2.get (j:=0) rfl
 have x2:=hjc.hd.bk.get (j:=5) rfl
 have H2:=Aa h2
 have HK2:=Aa K2
 have HPB2:=Aa hpb2
 have HTB2:=Aa htb2
 have HRB2:=Aa hrb2
 have HRI2:=Aa hri2
 have HJC:=Aa hjc
 have HF1:=Aa hF1
 clear hF1 h2 K2 hpb2 htb2 hrb2 hri2 hjc h1 hk1 hp1 s0 s1 cm HR2 HPB HTB HRB HRI HFB q0 q1 c1
 go_upto_region 3 with (fail)
 go_quiet (fail)
 by_cases hst:p.st=2
 ·have HFD:Hid (∀ w',Below w2.heap.size w2 w'→Calls Tryz.prog 83 #[.pointer (some ⟨g.tb,0,none⟩), .bool fo, .int .i64 i, .int .i64 a] w' fun e w3=> e= .returned (.tuple #[.bool false, .nilIface])∧Below w2.heap.size w2 w3):=fun w' hb=> by
   refine(Aab (b:=p.wh) (HJC.out.tk.rt.kept (Ab.Ag (S:=fun _=> False) hb (Nat.le_refl _)) id id id) (by rw [Adz hp,hst])).mono ?_
   rintro e w3 ⟨e1,rfl⟩
   exact⟨e1,hb⟩
  have HEND:Hid (∀ w',Below w2.heap.size w2 w'→B3 w0 w own G (U3 F a b (n,fo,i) (decide (p.st=2))) w'):=fun w' hb=> by
   rw [decide_eq_true hst]
   unfold U3
   rw [if_pos rfl,←HF1.out]
   refine⟨⟨own,_,H2.out.later hb,rfl,fun _ _=> rfl⟩,?_⟩
   exact(((Ab.Ag (S:=fun q=> own q≠ .out) HB0.out (Nat.le_refl _)).trans (HK2.out.mono fun q hq=> by rcases hq with e | e <;> rw [e] <;> simp)).trans (Ab.Ag (S:=fun q=> own q≠ .out) hb (Nat.le_refl _)))
  clear hst
  go_upto_region 4 with (fail)
  refine wp_region_noPanic ?_
  refine Ah (S:=(fun w'=> Below w2.heap.size w2 w')) (E:= [11,12,13,14,15]) (by kernel_rfl) ?_ (fun hHeld=> ?_)
  ·(first | exact(below_drewN (Below.refl _ _) nq).drew | exact hk3 | exact hHeld)
  try dsimp only [List.size_toArray,List.length_cons,List.length_nil,Nat.reduceAdd]
  refine hP 0 (v:=?_) rfl (by kernel_rfl) (by rfl) ?_ ?_
  rotate_left
  focus (intro w;go_simp;try with_reducible rfl)
  refine hP 4 (v:=?_) rfl (by kernel_rfl) (by rfl) ?_ ?_
  rotate_left
  focus (intro w;go_simp;try with_reducible rfl)
  refine hP 6 (v:=?_) rfl (by kernel_rfl) (by rfl) ?_ ?_
  rotate_left
  focus (intro w;go_simp;try with_reducible rfl)
  refine hP 8 (v:=?_) rfl (by kernel_rfl) (by rfl) ?_ ?_
  rotate_left
  focus (intro w;go_simp;try with_reducible rfl)
  refine hP 1 (v:=?_) rfl (by kernel_rfl) (by rfl) ?_ ?_
  rotate_left
  focus (intro w;go_simp;try with_reducible rfl)
  refine hT 5 [[10,5], [11,10,5], [11,10,5], [5], [5]] (v:=?_) rfl (by kernel_rfl) (by rfl) (by assumption) ?_ ?_
  rotate_left
  focus (intro w hSw;(try dsimp only at hSw);(have s0:=cell_later hSw t0;have s1:=cell_later hSw t1;have s2:=cell_later hSw t2;have s3:=cell_later hSw p0;have s4:=cell_later hSw x2);go_simp;try with_reducible rfl)
  refine hT 7 [[10,7], [11,10,7], [11,10,7], [7], [7]] (v:=?_) rfl (by kernel_rfl) (by rfl) (by assumption) ?_ ?_
  rotate_left
  focus (intro w hSw;(try dsimp only at hSw);(have s0:=cell_later hSw t0;have s1:=cell_later hSw t1;have s2:=cell_later hSw t2;have s3:=cell_later hSw p0;have s4:=cell_later hSw x2);go_simp;try with_reducible rfl)
  refine hT 9 [[10,9], [11,10,9], [11,10,9], [9], [9]] (v:=?_) rfl (by kernel_rfl) (by rfl) (by assumption) ?_ ?_
  rotate_left
  focus (intro w hSw;(try dsimp only at hSw);(have s0:=cell_later hSw t0;have s1:=cell_later hSw t1;have s2:=cell_later hSw t2;have s3:=cell_later hSw p0;have s4:=cell_later hSw x2);go_simp;try with_reducible rfl)
  refine hP 2 (v:=?_) rfl (by kernel_rfl) (by rfl) ?_ ?_
  rotate_left
  focus (intro w;go_simp;try with_reducible rfl)
  refine hT 3 [[10,3], [11,10,3], [11,10,3], [3], [3]] (v:=?_) rfl (by kernel_rfl) (by rfl) (by assumption) ?_ ?_
  rotate_left
  focus (intro w hSw;(try dsimp only at hSw);(have s0:=cell_later hSw t0;have s1:=cell_later hSw t1;have s2:=cell_later hSw t2;have s3:=cell_later hSw p0;have s4:=cell_later hSw x2);go_simp;try with_reducible rfl)
  try simp only [Act.put,List.setIfInBounds_toArray,List.set_cons_zero,List.set_cons_succ]
  refine hR [10] (by kernel_rfl) (by simp) (Ac.cons rfl (fun KH hKH=> ?_) .nil)
  go_simp
  (go_at_call 83;refine(HFD.out _ hHeld).mono ?_;rintro e w3 ⟨rfl,hk3⟩)
  refine hKH.out _ _ ?_ (fun hNew=> ?_)
  ·(first | exact(below_drewN (Below.refl _ _) nq).drew | exact hk3 | exact hHeld)
  clear hKH KH hHeld
  have hHeld:=hNew
  clear hNew
  try simp only [Act.put,List.setIfInBounds_toArray,List.set_cons_zero,List.set_cons_succ]
  refine hP 11 (v:=?_) rfl (by kernel_rfl) (by rfl) ?_ ?_
  rotate_left
  focus (intro w;go_simp;try with_reducible rfl)
  refine hP 12 (v:=?_) rfl (by kernel_rfl) (by rfl) ?_ ?_
  rotate_left
  focus (intro w;go_simp;try with_reducible rfl)
  refine hP 13 (v:=?_) rfl (by kernel_rfl) (by rfl) ?_ ?_
  rotate_left
  focus (intro w;go_simp;try with_reducible rfl)
  refine hP 14 (v:=?_) rfl (by kernel_rfl) (by rfl) ?_ ?_
  rotate_left
  focus (intro w;go_simp;try with_reducible rfl)
  refine hP 15 (v:=?_) rfl (by kernel_rfl) (by rfl) ?_ ?_
  rotate_left
  focus (intro w;go_simp;try with_reducible rfl)
  try simp only [Act.put,List.setIfInBounds_toArray,List.set_cons_zero,List.set_cons_succ]
  refine Ai (by kernel_rfl) ?_ _
  refine NoPanic.normal ?_
  have HFIN:=Aa (HEND.out _ hHeld)
  clear HEND HFD hHeld
  go_wp2
  exact bodyPost_ret (v:= .tuple #[]) (by simp [results,Tryz.results48,go_sem]) rfl ⟨rfl,HFIN.out⟩
 ·have HFY:Hid (∀ w',Below w2.heap.size w2 w'→Calls Tryz.prog 83 #[.pointer (some ⟨g.tb,0,none⟩), .bool fo, .int .i64 i, .int .i64 a] w' fun e w3=> e= .returned (.tuple #[.bool true, .nilIface])∧Ab (fun q=> own q= .Lz n) w2 w3∧RT w3 w0.heap.size g.tb g.pb g.sb (Lr fo (o.parts.map Jy) i (2,a)) (Hy fo (o.Cc.map Jy) i (2,a))):=fun w' hb=> by
   refine(Abr (HJC.out.tk.rt.kept (Ab.Ag (S:=fun _=> False) hb (Nat.le_refl _)) id id id) (Adz hp) hst).mono ?_
   rintro e w3 ⟨e1,k,hrt⟩
   exact⟨e1,(Ab.Ag (S:=fun q=> own q= .Lz n) hb (Nat.le_refl _)).trans (k.mono fun q hq=> hq ▸ HJC.out.tag fo),hrt⟩
  go_upto_region 4 with (fail)
  refine wp_region_noPanic ?_
  refine Ah (S:=(fun w'=> Below w2.heap.size w2 w')) (E:= [10,11,12,13,14,15]) (by kernel_rfl) ?_ (fun hHeld=> ?_)
  ·(first | exact(below_drewN (Below.refl _ _) nq).drew | exact hHeld)
  try dsimp only [List.size_toArray,List.length_cons,List.length_nil,Nat.reduceAdd]
  refine hP 0 (v:=?_) rfl (by kernel_rfl) (by rfl) ?_ ?_
  rotate_left
  focus (intro w;go_simp;try with_reducible rfl)
  refine hP 4 (v:=?_) rfl (by kernel_rfl) (by rfl) ?_ ?_
  rotate_left
  focus (intro w;go_simp;try with_reducible rfl)
  refine hP 6 (v:=?_) rfl (by kernel_rfl) (by rfl) ?_ ?_
  rotate_left
  focus (intro w;go_simp;try with_reducible rfl)
  refine hP 8 (v:=?_) rfl (by kernel_rfl) (by rfl) ?_ ?_
  rotate_left
  focus (intro w;go_simp;try with_reducible rfl)
  refine hP 1 (v:=?_) rfl (by kernel_rfl) (by rfl) ?_ ?_
  rotate_left
  focus (intro w;go_simp;try with_reducible rfl)
  refine hT 5 [[5], [10,5], [11,10,5], [11,10,5], [5], [5]] (v:=?_) rfl (by kernel_rfl) (by rfl) (by assumption) ?_ ?_
  rotate_left
  focus (intro w hSw;(try dsimp only at hSw);(have s0:=cell_later hSw t0;have s1:=cell_later hSw t1;have s2:=cell_later hSw t2;have s3:=cell_later hSw p0;have s4:=cell_later hSw x2);go_simp;try with_reducible rfl)
  refine hT 7 [[7], [10,7], [11,10,7], [11,10,7], [7], [7]] (v:=?_) rfl (by kernel_rfl) (by rfl) (by assumption) ?_ ?_
  rotate_left
  focus (intro w hSw;(try dsimp only at hSw);(have s0:=cell_later hSw t0;have s1:=cell_later hSw t1;have s2:=cell_later hSw t2;have s3:=cell_later hSw p0;have s4:=cell_later hSw x2);go_simp;try with_reducible rfl)
  refine hT 9 [[9], [10,9], [11,10,9], [11,10,9], [9], [9]] (v:=?_) rfl (by kernel_rfl) (by rfl) (by assumption) ?_ ?_
  rotate_left
  focus (intro w hSw;(try dsimp only at hSw);(have s0:=cell_later hSw t0;have s1:=cell_later hSw t1;have s2:=cell_later hSw t2;have s3:=cell_later hSw p0;have s4:=cell_later hSw x2);go_simp;try with_reducible rfl)
  refine hP 2 (v:=?_) rfl (by kernel_rfl) (by rfl) ?_ ?_
  rotate_left
  focus (intro w;go_simp;try with_reducible rfl)
  refine hT 3 [[3], [10,3], [11,10,3], [11,10,3], [3], [3]] (v:=?_) rfl (by kernel_rfl) (by rfl) (by assumption) ?_ ?_
  rotate_left
  focus (intro w hSw;(try dsimp only at hSw);(have s0:=cell_later hSw t0;have s1:=cell_later hSw t1;have s2:=cell_later hSw t2;have s3:=cell_later hSw p0;have s4:=cell_later hSw x2);go_simp;try with_reducible rfl)
  try simp only [Act.put,List.setIfInBounds_toArray,List.set_cons_zero,List.set_cons_succ]
  refine hR [10] (by kernel_rfl) (by simp) (Ac.A7 rfl (by kernel_rfl) (fun KH hKH=> ?_) .nil)
  go_simp
  (go_at_call 83;refine(HFY.out _ hHeld).mono ?_;rintro e w3 ⟨rfl,hk3,hrt3⟩)
  refine hKH.out _ _ ?_
  clear hKH KH
  try clear hHeld
  try simp only [Act.put,List.setIfInBounds_toArray,List.set_cons_zero,List.set_cons_succ]
  refine hP 11 (v:=?_) rfl (by kernel_rfl) (by rfl) ?_ ?_
  rotate_left
  focus (intro w;go_simp;try with_reducible rfl)
  refine hP 12 (v:=?_) rfl (by kernel_rfl) (by rfl) ?_ ?_
  rotate_left
  focus (intro w;go_simp;try with_reducible rfl)
  refine hP 13 (v:=?_) rfl (by kernel_rfl) (by rfl) ?_ ?_
  rotate_left
  focus (intro w;go_simp;try with_reducible rfl)
  refine hP 14 (v:=?_) rfl (by kernel_rfl) (by rfl) ?_ ?_
  rotate_left
  focus (intro w;go_simp;try with_reducible rfl)
  refine hP 15 (v:=?_) rfl (by kernel_rfl) (by rfl) ?_ ?_
  rotate_left
  focus (intro w;go_simp;try with_reducible rfl)
  try simp only [Act.put,List.setIfInBounds_toArray,List.set_cons_zero,List.set_cons_succ]
  refine Ai (by kernel_rfl) ?_ _
  refine NoPanic.normal ?_
  have hfx:=hi.Hj n o ho
  have hi64:i≤1000000:=by
   have:=(List.getElem?_eq_some_iff.1 hp).1
   have h1:=hfx.Ln
   have h2:=hfx.M4
   have h3:=hfx.Aeg
   unfold Er at this
   split at this <;> omega
  have hn6:n≤1000000:=by have:=hi.jl;have:=(List.getElem?_eq_some_iff.1 ho).1;omega
  have hntk:∀ {q:Nat},own q= .out→¬ own q= .Lz n:=fun {q} e=> by rw [e];simp
  have htb3:=HTB2.out.kept hk3 (hntk ho1)
  have hhd3:=HJC.out.hd.kept hk3 fun q hq=> by rw [hq];simp
  have x8:=hhd3.bk.get (j:=8) rfl
  have s0:=htb3.get (j:=0) rfl
  have s1:=htb3.get (j:=1) rfl
  have s2:=htb3.get (j:=2) rfl
  have hsv3:Ds (w3.drewN 1) Tryz.prog 33 g.mb g.sf:=(HJC.out.sv.sv.kept hk3 (by rw [HJC.out.sv.om];simp)).kept (Ab.Ag (S:=fun _=> False) (below_drewN (Below.refl w3.heap.size w3) 1) (Nat.le_refl _)) id
  obtain⟨w4,hrun4,hm4,hk4⟩:=hsv3.drop Anf Tryz.underlying99 (key:=Cu (n,fo,i)) (Zg (J2 hn6) (J2 hi64)) 0
  have K24:Ab (fun q=> own q= .Lz n∨own q= .saved n) w2 w4:=((hk3.mono fun q hq=> .inl hq).trans (Ab.Ag (S:=fun q=> own q= .Lz n∨own q= .saved n) (below_drewN (Below.refl w3.heap.size w3) 1) (Nat.le_refl _))).trans (hk4.mono fun q hq=> .inr (hq ▸ HJC.out.sv.om))
  have hrt4:=hrt3.kept ((Ab.Ag (S:=fun q=> own q= .saved n) (below_drewN (Below.refl w3.heap.size w3) 1) (Nat.le_refl _)).trans (hk4.mono (T:=fun q=> own q= .saved n) fun q hq=> hq ▸ HJC.out.sv.om)) (by rw [HJC.out.tk.ot.1];simp) (by rw [HJC.out.tk.ot.2.1];simp) (by rw [HJC.out.tk.ot.2.2];simp)
  have HR4:=Aa hrun4
  have HK24:=Aa K24
  have HM4:=Aa hm4
  have HRT4:=Aa hrt4
  clear hk3 hrt3 htb3 hhd3 hsv3 hrun4 hm4 hk4 K24 hrt4 HFY t0 t1 t2 p0 x2 cj cn
  have htb4:=HTB2.out.kept HK24.out (fun e=> by rw [ho1] at e;simp at e)
  have hrb4:=HRB2.out.kept HK24.out (fun e=> by rw [ho2] at e;simp at e)
  have hhd4:=HJC.out.hd.kept HK24.out fun q hq=> by rcases hq with e | e <;> rw [e] <;> simp
  have hri4:=HRI2.out.kept HK24.out fun q hq=> by rcases hq with e | e <;> rw [e] <;> simp
  have u1:=htb4.get (j:=1) rfl
  have u2:=htb4.get (j:=2) rfl
  have v0:=hrb4.get (j:=0) rfl
  have v1:=hrb4.get (j:=1) rfl
  have y6:=hhd4.bk.get (j:=6) rfl
  have y7:=hhd4.bk.get (j:=7) rfl
  have HTB4:=Aa htb4
  have HRB4:=Aa hrb4
  have HHD4:=Aa hhd4
  have HRI4:=Aa hri4
  have HFX:=Aa hfx
  clear htb4 hrb4 hhd4 hri4 HTB2 HRB2 HRI2 hfx ej hgb f1 hnl hntk hg'
  cases fo with
  | false=>
    go_upto_region 6 with (fail)
    refine Bi 5 (by kernel_rfl) (by kernel_rfl) ?_
    simp only [List.take_succ_cons,List.take_zero,List.drop_succ_cons,List.drop_zero]
    repeat still_step
    refine wpStill_nil ?_
    go_wp2_with (at_delete;refine I7 rfl rfl _ _ 99 33 rfl g.mb (Cu (n,false,i)) rfl rfl HR4.out ?_)
    clear s0 s1 s2 x8 HR4
    have hri:=HRI4.out
    unfold Bx at hri
    rw [if_neg (by simp)] at hri
    dsimp only at hri
    obtain⟨B,vm,hvm,hB,hri⟩:=hri
    have hvm0:vm= .pointer r0:=by simp at hvm;exact hvm.1.symm
    subst hvm0
    have hil:i < o.parts.length:=(List.getElem?_eq_some_iff.1 hp).1
    obtain⟨gb2,cap2,lv,ov,hpv,hpl,hgb2,hco⟩:=HJC.out.partAt hil
    have hco4:=HK24.out.cell hco (by rw [hgb2];simp)
    rw [hpv] at y6
    have HPO4:Hid (Own 2 Eo 133 w4 w0.heap.size (.slice (some ⟨gb2,0,none⟩) o.parts.length cap2) g.pl):=by
     have:=HK24.out.own HJC.out.pt.po fun q hq=> by rw [HJC.out.pt.op q hq];simp
     rw [hpv] at this
     exact this
    have hpm:t.at_=(Ao o i).length:=by rw [hat,Cn];exact(hi.part n o false i p ho hp).many
    have h60:(Ao o i).length≤60:=by rw [Cn];unfold G7;have:=HFX.out.lines;simp;omega
    have HMS:Hid (∀ w',Below w4.heap.size w4 w'→Calls Tryz.prog 85 #[.pointer r0] w' fun e w5=> ∃ ob vs,e= .returned (.slice (some ⟨ob,0,none⟩) o.slices o.slices)∧Pa w5 w4.heap.size ob vs (Ke o.fold o.early o.slices (A9 o.rs o.fold (Ao o i)))∧Below w4.heap.size w4 w5):=fun w' hb=> by
     have:=Zw w' (hri.later hb) (Pf.of (by rw [HJC.out.hd.rv];exact HFX.out.ok)) (fun l hl=> by have:=HFX.out.short l (Hu hl);omega) (by omega)
     rw [hpm,List.take_length,HJC.out.hd.rv] at this
     refine this.mono ?_
     rintro e w5 ⟨ob,vs,e1,h3,h4⟩
     exact⟨ob,vs,e1,h3.Bo hb.size,hb.trans (h4.mono hb.size)⟩
    have HEND:Hid (∀ w5 ob vs,Pa w5 w4.heap.size ob vs (Ke o.fold o.early o.slices (A9 o.rs o.fold (Ao o i)))→Below w4.heap.size w4 w5→B3 w0 w own G (U3 F a b (n,false,i) (decide (p.st=2))) (w5.setCell ⟨gb2,i * 2+1,none⟩ (.slice (some ⟨ob,0,none⟩) o.slices o.slices))):=fun w5 ob vs h3 h4=> by
     rw [decide_eq_false hst]
     unfold U3
     rw [if_neg (by simp),←HF1.out]
     dsimp only
     rw [if_neg (by simp)]
     exact Ad3 (G2:={G with rf:=L7 G.rf (.agg #[.int .i64 (a:Int), .int .i64 (b:Int)]) none}) ((Ab.Ag (S:=fun q=> own q≠ .out) HB0.out (Nat.le_refl _)).trans (HK2.out.mono fun q hq=> by rcases hq with e | e <;> rw [e] <;> simp)) rfl H2.out hg hoF hp HK24.out HRT4.out HM4.out h4 hpv hpl h3
    have f2:(i:Int) < (o.parts.length:Int):=by omega
    clear hpm h60 hri hvm hB hpl hgb2 hpv hco hst hat hil hte ht hv
    go_upto_region 10 with (fail)
    refine wp_region_noPanic ?_
    refine Ah (S:=(fun w'=> Below w4.heap.size w4 w')) (E:= [11]) (by kernel_rfl) ?_ (fun hHeld=> ?_)
    ·(first | exact(Below.refl _ _).drew | exact hb5 | exact hHeld)
    try dsimp only [List.size_toArray,List.length_cons,List.length_nil,Nat.reduceAdd]
    refine hP 0 (v:=?_) rfl (by kernel_rfl) (by rfl) ?_ ?_
    rotate_left
    focus (intro w;go_simp;try with_reducible rfl)
    refine hP 4 (v:=?_) rfl (by kernel_rfl) (by rfl) ?_ ?_
    rotate_left
    focus (intro w;go_simp;try with_reducible rfl)
    refine hP 6 (v:=?_) rfl (by kernel_rfl) (by rfl) ?_ ?_
    rotate_left
    focus (intro w;go_simp;try with_reducible rfl)
    refine hP 1 (v:=?_) rfl (by kernel_rfl) (by rfl) ?_ ?_
    rotate_left
    focus (intro w;go_simp;try with_reducible rfl)
    refine hT 5 [[5]] (v:=?_) rfl (by kernel_rfl) (by rfl) (by assumption) ?_ ?_
    rotate_left
    focus (intro w hSw;(try dsimp only at hSw);(have z2:=cell_later hSw u2;have z0:=cell_later hSw v0;have z6:=cell_later hSw y6);go_simp;try with_reducible rfl)
    refine hT 7 [[7]] (v:=?_) rfl (by kernel_rfl) (by rfl) (by assumption) ?_ ?_
    rotate_left
    focus (intro w hSw;(try dsimp only at hSw);(have z2:=cell_later hSw u2;have z0:=cell_later hSw v0;have z6:=cell_later hSw y6);go_simp;try with_reducible rfl)
    refine hP 2 (v:=?_) rfl (by kernel_rfl) (by rfl) ?_ ?_
    rotate_left
    focus (intro w;go_simp;try with_reducible rfl)
    refine hT 3 [[3]] (v:=?_) rfl (by kernel_rfl) (by rfl) (by assumption) ?_ ?_
    rotate_left
    focus (intro w hSw;(try dsimp only at hSw);(have z2:=cell_later hSw u2;have z0:=cell_later hSw v0;have z6:=cell_later hSw y6);go_simp;try with_reducible rfl)
    try simp only [Act.put,List.setIfInBounds_toArray,List.set_cons_zero,List.set_cons_succ]
    refine hR [8] (by kernel_rfl) (by simp) (Ac.cons rfl (fun KH hKH=> ?_) .nil)
    go_simp
    (go_at_call 85;refine(HMS.out _ hHeld).mono ?_;rintro e w5 ⟨ob,vs,rfl,hr5,hb5⟩)
    refine hKH.out _ _ ?_ (fun hNew=> ?_)
    ·(first | exact(Below.refl _ _).drew | exact hb5 | exact hHeld)
    clear hKH KH hHeld
    have hHeld:=hNew
    clear hNew
    try simp only [Act.put,List.setIfInBounds_toArray,List.set_cons_zero,List.set_cons_succ]
    refine hP 9 (v:=?_) rfl (by kernel_rfl) (by rfl) ?_ ?_
    rotate_left
    focus (intro w;go_simp;try with_reducible rfl)
    refine hP 10 (v:=?_) rfl (by kernel_rfl) (by rfl) ?_ ?_
    rotate_left
    focus (intro w;go_simp;try with_reducible rfl)
    try simp only [Act.put,List.setIfInBounds_toArray,List.set_cons_zero,List.set_cons_succ]
    refine hR [11] (by kernel_rfl) (by simp) (Ac.A7 rfl (by kernel_rfl) (fun KH hKH=> ?_) .nil)
    have s9:=cell_later hHeld hco4
    have z9:=(HPO4.out.later hHeld).frozenAt (i * 2+1)
    go_simp
    refine hKH.out _ _ ?_
    clear hKH KH
    try clear hHeld
    refine Ai (by kernel_rfl) ?_ _
    refine NoPanic.normal ?_
    have HFIN:=Aa (HEND.out w5 ob vs hr5 hb5)
    clear HEND HMS hr5 hb5 u1 u2 v0 v1 y6 y7 hco4
    go_wp2
    exact bodyPost_end (results_none rfl _ _ _) rfl ⟨rfl,HFIN.out⟩
  | true=>
    go_upto_region 6 with (fail)
    refine Bi 5 (by kernel_rfl) (by kernel_rfl) ?_
    simp only [List.take_succ_cons,List.take_zero,List.drop_succ_cons,List.drop_zero]
    repeat still_step
    refine wpStill_nil ?_
    go_wp2_with (at_delete;refine I7 rfl rfl _ _ 99 33 rfl g.mb (Cu (n,true,i)) rfl rfl HR4.out ?_)
    clear s0 s1 s2 x8 HR4
    have hri:=HRI4.out
    unfold Bx at hri
    rw [if_pos rfl] at hri
    dsimp only at hri
    obtain⟨B,vf,hvf,hB,hri⟩:=hri
    have hvf0:vf= .pointer r1:=by simp at hvf;exact hvf.2.symm
    subst hvf0
    have hil:i < o.slices:=by rw [←HFX.out.M4];exact(List.getElem?_eq_some_iff.1 hp).1
    have hgl:=HFX.out.Ld hil
    obtain⟨s,hs⟩:∃ s,s=tx (Cl (U4 o.rs o.fold o.slices o.lines i)):=⟨_,rfl⟩
    have hos:o.out[i]?=some s:=by
     rw [hou,hs];unfold Of
     rw [List.getElem?_map,List.getElem?_range hil];rfl
    have HSZ:Hid (s.size≤10000000):=by
     have:=HFX.out.Te i (Ae o.fold (B8 o i)).length
     rw [List.take_length,hgl] at this
     show _≤_
     rw [hs,Ak];omega
    have hpm:t.at_=(Ae o.fold (B8 o i)).length:=by rw [hat,(hi.part n o true i p ho hp).many,hgl];rfl
    have hosl:i < g.os.length:=by rw [HJC.out.os.on_];exact hil
    have HOU:Hid (∀ w',Below w4.heap.size w4 w'→Calls Tryz.prog 84 #[.pointer r1] w' fun e w5=> e= .returned (.string s)∧Below w4.heap.size w4 w5):=fun w' hb=> by
     have hlt:∀ q,own q= .run a b→q < w'.heap.size:=fun q hq=> by
      have h1:=H2.out.lt (q:=q) (by rw [hq];simp)
      have h3:=HK24.out.size
      have h5:=hb.size
      omega
     have:=Aez w' (HH.out.gw.later ((H2.out.Gj.trans (HK24.out.below (fun q hq=> (H2.out.lo q (by rcases hq with e | e <;> rw [e] <;> simp)).1) H2.out.Gj.size)).trans (hb.mono (Nat.le_trans H2.out.Gj.size HK24.out.size))) (Nat.le_refl _)).toGT ((hri.later hb).Aor hlt) (HFX.out.Xx i)
     rw [hpm,List.take_length,hgl,←hs] at this
     refine this.mono ?_
     rintro e w5 ⟨e1,h4⟩
     exact⟨e1,hb.trans (h4.mono hb.size)⟩
    have HEND:Hid (∀ w5,Below w4.heap.size w4 w5→Ab (fun q=> own q≠ .out) w (w5.setCell ⟨g.ob,i,none⟩ (.string s))∧∃ G3,Bv w0 (w5.setCell ⟨g.ob,i,none⟩ (.string s)) own G3 (setOf F1 (n,true,i) (Ew a))∧G3.fb=G.fb):=fun w5 h4=>
     Ahp (G2:={G with rf:=L7 G.rf (.agg #[.int .i64 (a:Int), .int .i64 (b:Int)]) none}) ((Ab.Ag (S:=fun q=> own q≠ .out) HB0.out (Nat.le_refl _)).trans (HK2.out.mono fun q hq=> by rcases hq with e | e <;> rw [e] <;> simp)) rfl H2.out hg hoF hp hos HK24.out HRT4.out HM4.out h4 hosl
    have f2:(i:Int) < (o.slices:Int):=by omega
    have HOS4:Hid (Own 1 C8 9 w4 w0.heap.size (.slice (some ⟨g.ob,0,none⟩) o.slices o.slices) g.os):=HK24.out.own HJC.out.os.os fun q hq=> by cases hq;rw [HJC.out.os.oo];simp
    have hco4:w4.cell? ⟨g.ob,i,none⟩=some (.string g.os[i]):=by
     have:=HOS4.out.cellAt (i:=i) (j:=0) (x:=g.os[i]) Cz (List.getElem?_eq_getElem hosl) rfl
     simpa using this
    have HRUN:=Aa hri
    have HOUT2:Hid (∀ w',w2.heap.size≤w'.heap.size→GT w'→Gs w' B o.fold (B8 o i) t.at_ (fun q=> own q= .run a b) (fun q=> own q= .run a b) (.pointer r1)→Calls Tryz.prog 84 #[.pointer r1] w' fun e w5=> e= .returned (.string s)∧Below w'.heap.size w' w5):=fun w' hsz hgt hr=> by
     have:=Aez w' hgt (hr.Aor fun q hq=> by have h1:=H2.out.lt (q:=q) (by rw [hq];simp);omega) (HFX.out.Xx i)
     rw [hpm,List.take_length,hgl,←hs] at this
     exact this
    have HLOG:Hid (U3 F a b (n,true,i) (decide (p.st=2))={setOf F1 (n,true,i) (Ew a) with log:=F.log++Kt (tx Uv, [(n:Int),(i:Int)], [s])}):=by
     show _=_
     rw [decide_eq_false hst]
     unfold U3
     rw [if_neg (by simp),←HF1.out]
     dsimp only
     rw [if_pos rfl,ho]
     simp only [Option.bind_some]
     rw [hos,Option.getD_some]
     rw [HF1.out]
     rfl
    clear hpm hri hvf hB hst hat hil hte ht hv hgl hs hou
    go_upto_region 8 with (fail)
    refine wp_region_noPanic ?_
    refine Ah (S:=(fun w'=> Below w4.heap.size w4 w')) (E:= [10]) (by kernel_rfl) ?_ (fun hHeld=> ?_)
    ·(first | exact(Below.refl _ _).drew | exact hb5 | exact hHeld)
    try dsimp only [List.size_toArray,List.length_cons,List.length_nil,Nat.reduceAdd]
    refine hP 0 (v:=?_) rfl (by kernel_rfl) (by rfl) ?_ ?_
    rotate_left
    focus (intro w;go_simp;try with_reducible rfl)
    refine hP 4 (v:=?_) rfl (by kernel_rfl) (by rfl) ?_ ?_
    rotate_left
    focus (intro w;go_simp;try with_reducible rfl)
    refine hP 6 (v:=?_) rfl (by kernel_rfl) (by rfl) ?_ ?_
    rotate_left
    focus (intro w;go_simp;try with_reducible rfl)
    refine hP 1 (v:=?_) rfl (by kernel_rfl) (by rfl) ?_ ?_
    rotate_left
    focus (intro w;go_simp;try with_reducible rfl)
    refine hT 5 [[5]] (v:=?_) rfl (by kernel_rfl) (by rfl) (by assumption) ?_ ?_
    rotate_left
    focus (intro w hSw;(try dsimp only at hSw);(have z2:=cell_later hSw u2;have z1:=cell_later hSw v1;have z7:=cell_later hSw y7);go_simp;try with_reducible rfl)
    refine hT 7 [[7]] (v:=?_) rfl (by kernel_rfl) (by rfl) (by assumption) ?_ ?_
    rotate_left
    focus (intro w hSw;(try dsimp only at hSw);(have z2:=cell_later hSw u2;have z1:=cell_later hSw v1;have z7:=cell_later hSw y7);go_simp;try with_reducible rfl)
    refine hP 2 (v:=?_) rfl (by kernel_rfl) (by rfl) ?_ ?_
    rotate_left
    focus (intro w;go_simp;try with_reducible rfl)
    refine hT 3 [[3]] (v:=?_) rfl (by kernel_rfl) (by rfl) (by assumption) ?_ ?_
    rotate_left
    focus (intro w hSw;(try dsimp only at hSw);(have z2:=cell_later hSw u2;have z1:=cell_later hSw v1;have z7:=cell_later hSw y7);go_simp;try with_reducible rfl)
    try simp only [Act.put,List.setIfInBounds_toArray,List.set_cons_zero,List.set_cons_succ]
    refine hR [8] (by kernel_rfl) (by simp) (Ac.cons rfl (fun KH hKH=> ?_) .nil)
    go_simp
    (go_at_call 84;refine(HOU.out _ hHeld).mono ?_;rintro e w5 ⟨rfl,hb5⟩)
    refine hKH.out _ _ ?_ (fun hNew=> ?_)
    ·(first | exact(Below.refl _ _).drew | exact hb5 | exact hHeld)
    clear hKH KH hHeld
    have hHeld:=hNew
    clear hNew
    try simp only [Act.put,List.setIfInBounds_toArray,List.set_cons_zero,List.set_cons_succ]
    refine hP 9 (v:=?_) rfl (by kernel_rfl) (by rfl) ?_ ?_
    rotate_left
    focus (intro w;go_simp;try with_reducible rfl)
    try simp only [Act.put,List.setIfInBounds_toArray,List.set_cons_zero,List.set_cons_succ]
    refine hR [10] (by kernel_rfl) (by simp) (Ac.A7 rfl (by kernel_rfl) (fun KH hKH=> ?_) .nil)
    have s9:=cell_later hHeld hco4
    have z9:=(HOS4.out.later hHeld).frozenAt i
    go_simp
    refine hKH.out _ _ ?_
    clear hKH KH
    try clear hHeld
    refine Ai (by kernel_rfl) ?_ _
    refine NoPanic.normal ?_
    obtain⟨hkw,G3,hf6,hfb3⟩:=HEND.out w5 hb5
    have k56:Ab (fun q=> q=g.ob) w5 (w5.setCell ⟨g.ob,i,none⟩ (.string s)):=(Ab.refl (fun q=> q=g.ob) w5).setCell (p:=⟨g.ob,i,none⟩) rfl _
    obtain⟨W6,hW6⟩:∃ W6,W6=w5.setCell ⟨g.ob,i,none⟩ (.string s):=⟨_,rfl⟩
    rw [←hW6] at hkw hf6 k56
    rw [←hW6]
    have k46:Ab (fun q=> q=g.ob) w4 W6:=(Ab.Ag hb5 (Nat.le_refl _)).trans k56
    have hoo:=HJC.out.os.oo
    have htb6:=HTB4.out.kept k46 (fun e=> by rw [e,hoo] at ho1;cases ho1)
    have hrb6:=HRB4.out.kept k46 (fun e=> by rw [e,hoo] at ho2;cases ho2)
    have hrun6:=HRUN.out.kept k46 (fun q hq e=> by rw [e,hoo] at hq;cases hq) (fun q hq e=> by rw [e,hoo] at hq;cases hq)
    have c4:=hf6.bk.get (j:=4) rfl
    have ef3:(setOf F1 (n,true,i) (Ew a)).log=F.log:=by rw [HF1.out];rfl
    rw [hfb3,ef3] at c4
    have e0:=htb6.get (j:=0) rfl
    have e2:=htb6.get (j:=2) rfl
    have r1c:=hrb6.get (j:=1) rfl
    have hs26:w2.heap.size≤W6.heap.size:=Nat.le_trans HK24.out.size k46.size
    have HOU6:Hid (∀ w',Below W6.heap.size W6 w'→Calls Tryz.prog 84 #[.pointer r1] w' fun e w5=> e= .returned (.string s)∧Below w'.heap.size w' w5):=fun w' hb=> HOUT2.out w' (Nat.le_trans hs26 hb.size) (hf6.gwl.later hb (Nat.le_refl _)).toGT (hrun6.later hb)
    clear HOU HOUT2 HEND hb5 k56 htb6 hrb6 hrun6 k46 s9 z9 hco4 u1 u2 v0 v1 y6 y7 HOS4 hW6
    have hssz:s.size≤10000000:=HSZ.out
    have HI6:Hid (Ag5 [(n:Int),(i:Int)]):=by
     intro x hx
     simp at hx
     rcases hx with rfl | rfl <;> constructor <;> omega
    have HT6:Hid (∀ t∈ [s],t.size≤10000000):=by
     intro t ht
     simp at ht
     rw [ht];exact hssz
    have HJT:=Aa fun(w':World) (k:Below W6.heap.size W6 w') (na ta:Option Addr) (hs1:Sl 1 Fe w' na [(n:Int),(i:Int)]) (hs2:Sl 1 C8 w' ta [s])=> Vy (tx Uv) na 2 [(n:Int),(i:Int)] ta 1 [s] w' (hf6.gwl.later k (Nat.le_refl _)) (by decide) (by simp) (by simp) HI6.out HT6.out hs1 hs2 (by simp)
    have hcat:¬ 9223372036854775807 < (tx F.log).size+(tx (Kt (tx Uv, [(n:Int),(i:Int)], [s]))).size:=by
     have h6:=Sr (k:=tx Uv) (N:= [(n:Int),(i:Int)]) (T:= [s]) (by decide) HI6.out (by simp) (by simp) HT6.out
     rw [Ak (l:=F.log)]
     omega
    have HLQ:Hid (tx F.log++tx (Kt (tx Uv, [(n:Int),(i:Int)], [s]))=tx (F.log++Kt (tx Uv, [(n:Int),(i:Int)], [s]))):=by
     show _=_
     apply C6
     rw [tl,tl,An]
     simp [tx,ByteArray.data_append]
    have HHO:=Aa HH.out.oh
    have hf6e:∃ v3,W6.cell? ⟨G3.fb,3,none⟩=some v3:=⟨_,hf6.bk.get (j:=3) rfl⟩
    obtain⟨v3,hv3⟩:=hf6e
    have HV3:=Aa hv3
    have HF6:=Aa hf6
    have HKW:=Aa hkw
    have HFB3:=Aa hfb3
    clear HI6 HT6 hssz hv3 hf6 hkw hfb3 ef3
    generalize Kt (tx Uv, [(n:Int),(i:Int)], [s])=en at *
    obtain⟨lg,hlg'⟩:∃ lg,lg=tx F.log:=⟨_,rfl⟩
    obtain⟨ent,hent⟩:∃ ent,ent=tx en:=⟨_,rfl⟩
    rw [←hlg',←hent] at hcat HLQ
    rw [←hlg'] at c4
    rw [←hent] at HJT
    clear hlg' hent
    go_upto_region 9 with (fail)
    refine wp_region_noPanic ?_
    refine Ah (S:=(fun w'=> Below W6.heap.size W6 w')) (E:= [18]) (by kernel_rfl) ?_ (fun hHeld=> ?_)
    ·(first | exact(Below.refl _ _).drew | exact hHeld.alloc hHeld.size _ | exact hHeld.trans (b7.mono hHeld.size) | exact hHeld.trans (b6.mono hHeld.size) | exact hHeld)
    try dsimp only [List.size_toArray,List.length_cons,List.length_nil,Nat.reduceAdd]
    refine hP 0 (v:=?_) rfl (by kernel_rfl) (by rfl) ?_ ?_
    rotate_left
    focus (intro w;go_simp;try with_reducible rfl)
    refine hP 4 (v:=?_) rfl (by kernel_rfl) (by rfl) ?_ ?_
    rotate_left
    focus (intro w;go_simp;try with_reducible rfl)
    refine hP 6 (v:=?_) rfl (by kernel_rfl) (by rfl) ?_ ?_
    rotate_left
    focus (intro w;go_simp;try with_reducible rfl)
    refine hP 9 (v:=?_) rfl (by kernel_rfl) (by rfl) ?_ ?_
    rotate_left
    focus (intro w;go_simp;try with_reducible rfl)
    refine hP 1 (v:=?_) rfl (by kernel_rfl) (by rfl) ?_ ?_
    rotate_left
    focus (intro w;go_simp;try with_reducible rfl)
    refine hT 5 [[5]] (v:=?_) rfl (by kernel_rfl) (by rfl) (by assumption) ?_ ?_
    rotate_left
    focus (intro w hSw;(try dsimp only at hSw);(have z4:=cell_later hSw c4;have z0:=cell_later hSw e0;have z2:=cell_later hSw e2;have zr:=cell_later hSw r1c);go_simp;try with_reducible rfl)
    refine hT 7 [[7]] (v:=?_) rfl (by kernel_rfl) (by rfl) (by assumption) ?_ ?_
    rotate_left
    focus (intro w hSw;(try dsimp only at hSw);(have z4:=cell_later hSw c4;have z0:=cell_later hSw e0;have z2:=cell_later hSw e2;have zr:=cell_later hSw r1c);go_simp;try with_reducible rfl)
    refine hT 10 [[10]] (v:=?_) rfl (by kernel_rfl) (by rfl) (by assumption) ?_ ?_
    rotate_left
    focus (intro w hSw;(try dsimp only at hSw);(have z4:=cell_later hSw c4;have z0:=cell_later hSw e0;have z2:=cell_later hSw e2;have zr:=cell_later hSw r1c);go_simp;try with_reducible rfl)
    refine hP 2 (v:=?_) rfl (by kernel_rfl) (by rfl) ?_ ?_
    rotate_left
    focus (intro w;go_simp;try with_reducible rfl)
    refine hT 3 [[3]] (v:=?_) rfl (by kernel_rfl) (by rfl) (by assumption) ?_ ?_
    rotate_left
    focus (intro w hSw;(try dsimp only at hSw);(have z4:=cell_later hSw c4;have z0:=cell_later hSw e0;have z2:=cell_later hSw e2;have zr:=cell_later hSw r1c);go_simp;try with_reducible rfl)
    try simp only [Act.put,List.setIfInBounds_toArray,List.set_cons_zero,List.set_cons_succ]
    refine hR [8,11] (by kernel_rfl) (by simp) (Ac.cons rfl (fun KH hKH=> ?_) (Ac.cons rfl (fun KH hKH=> ?_) .nil))
    ·go_simp
     refine hKH.out _ _ ?_ (fun hNew=> ?_)
     ·(first | exact(Below.refl _ _).drew | exact hHeld.alloc hHeld.size _ | exact hHeld.trans (b7.mono hHeld.size) | exact hHeld.trans (b6.mono hHeld.size) | exact hHeld)
     clear hKH KH hHeld
     have hHeld:=hNew
     clear hNew
     try simp only [Act.put,List.setIfInBounds_toArray,List.set_cons_zero,List.set_cons_succ]
     refine hR [11] (by kernel_rfl) (by simp) (Ac.cons rfl (fun KH hKH=> ?_) .nil)
     go_simp
     (go_at_call 84;refine(HOU6.out _ hHeld).mono ?_;rintro e w7 ⟨rfl,b6⟩)
     refine hKH.out _ _ ?_ (fun hNew=> ?_)
     ·(first | exact(Below.refl _ _).drew | exact hHeld.alloc hHeld.size _ | exact hHeld.trans (b7.mono hHeld.size) | exact hHeld.trans (b6.mono hHeld.size) | exact hHeld)
     clear hKH KH hHeld
     have hHeld:=hNew
     clear hNew
     try simp only [Act.put,List.setIfInBounds_toArray,List.set_cons_zero,List.set_cons_succ]
     refine hR [12] (by kernel_rfl) (by simp) (Ac.cons rfl (fun KH hKH=> ?_) .nil)
     go_simp
     refine hKH.out _ _ ?_ (fun hNew=> ?_)
     ·(first | exact(Below.refl _ _).drew | exact hHeld.alloc hHeld.size _ | exact hHeld.trans (b7.mono hHeld.size) | exact hHeld.trans (b6.mono hHeld.size) | exact hHeld)
     clear hKH KH hHeld
     have hHeld:=hNew
     clear hNew
     try simp only [Act.put,List.setIfInBounds_toArray,List.set_cons_zero,List.set_cons_succ]
     refine hP 13 (v:=?_) rfl (by kernel_rfl) (by rfl) ?_ ?_
     rotate_left
     focus (intro w;go_simp;try with_reducible rfl)
     try simp only [Act.put,List.setIfInBounds_toArray,List.set_cons_zero,List.set_cons_succ]
     refine hR [14] (by kernel_rfl) (by simp) (Ac.cons rfl (fun KH hKH=> ?_) .nil)
     go_simp
     (go_at_call 52;refine(HJT.out _ (by assumption) _ _ (by repeat (first | exact F6 Dz (by simp) rfl | refine Sl.Nl ?_ _ | refine Sl.later ?_ b6 (Nat.le_refl _) | refine Sl.Je ?_)) (by repeat (first | exact F6 Cz (by simp) rfl | refine Sl.Nl ?_ _ | refine Sl.later ?_ b6 (Nat.le_refl _) | refine Sl.Je ?_))).mono ?_;rintro e w8 ⟨rfl,b7⟩)
     refine hKH.out _ _ ?_ (fun hNew=> ?_)
     ·(first | exact(Below.refl _ _).drew | exact hHeld.alloc hHeld.size _ | exact hHeld.trans (b7.mono hHeld.size) | exact hHeld.trans (b6.mono hHeld.size) | exact hHeld)
     clear hKH KH hHeld
     have hHeld:=hNew
     clear hNew
     try simp only [Act.put,List.setIfInBounds_toArray,List.set_cons_zero,List.set_cons_succ]
     refine hP 15 (v:=?_) rfl (by kernel_rfl) (by rfl) ?_ ?_
     rotate_left
     focus (intro w;go_simp;try with_reducible rfl)
     refine hP 16 (v:=?_) rfl (by kernel_rfl) (by rfl) ?_ ?_
     rotate_left
     focus (intro w;go_simp;try with_reducible rfl)
     refine hP 17 (v:=?_) rfl (by kernel_rfl) (by rfl) ?_ ?_
     rotate_left
     focus (intro w;go_simp;try with_reducible rfl)
     try simp only [Act.put,List.setIfInBounds_toArray,List.set_cons_zero,List.set_cons_succ]
     refine hR [18] (by kernel_rfl) (by simp) (Ac.A7 rfl (by kernel_rfl) (fun KH hKH=> ?_) .nil)
     have h9:=HF6.out.later hHeld
     have HB3:=Aa hHeld
     have s4:=h9.bk.get (j:=4) rfl
     have z9:=h9.bk.fz 4
     rw [HFB3.out] at s4 z9
     have HV9:=Aa (cell_later hHeld HV3.out)
     have H9:=Aa h9
     clear h9 b6 b7 HJT HOU6
     go_simp
     refine hKH.out _ _ ?_
     clear hKH KH
     try clear hHeld
     refine Ai (by kernel_rfl) ?_ _
     refine NoPanic.normal ?_
     have hfin:=(Ps HFB3.out HHO.out (fun _ _=> rfl) HKW.out HB3.out HV9.out H9.out (F.log++en)).2
     rw [←HLQ.out,HFB3.out] at hfin
     have HFIN:=Aa hfin
     clear hfin s4 z9
     go_wp2
     exact bodyPost_ret (v:= .tuple #[]) (by simp [results,Tryz.results48,go_sem]) rfl ⟨rfl,by rw [HLOG.out];exact HFIN.out⟩
    ·go_simp
     (go_at_call 84;refine(HOU6.out _ hHeld).mono ?_;rintro e w7 ⟨rfl,b6⟩)
     refine hKH.out _ _ ?_ (fun hNew=> ?_)
     ·(first | exact(Below.refl _ _).drew | exact hHeld.alloc hHeld.size _ | exact hHeld.trans (b7.mono hHeld.size) | exact hHeld.trans (b6.mono hHeld.size) | exact hHeld)
     clear hKH KH hHeld
     have hHeld:=hNew
     clear hNew
     refine hR [8,12] (by kernel_rfl) (by simp) (Ac.cons rfl (fun KH hKH=> ?_) (Ac.cons rfl (fun KH hKH=> ?_) .nil))
     ·go_simp
      refine hKH.out _ _ ?_ (fun hNew=> ?_)
      ·(first | exact(Below.refl _ _).drew | exact hHeld.alloc hHeld.size _ | exact hHeld.trans (b7.mono hHeld.size) | exact hHeld.trans (b6.mono hHeld.size) | exact hHeld)
      clear hKH KH hHeld
      have hHeld:=hNew
      clear hNew
      try simp only [Act.put,List.setIfInBounds_toArray,List.set_cons_zero,List.set_cons_succ]
      refine hR [12] (by kernel_rfl) (by simp) (Ac.cons rfl (fun KH hKH=> ?_) .nil)
      go_simp
      refine hKH.out _ _ ?_ (fun hNew=> ?_)
      ·(first | exact(Below.refl _ _).drew | exact hHeld.alloc hHeld.size _ | exact hHeld.trans (b7.mono hHeld.size) | exact hHeld.trans (b6.mono hHeld.size) | exact hHeld)
      clear hKH KH hHeld
      have hHeld:=hNew
      clear hNew
      try simp only [Act.put,List.setIfInBounds_toArray,List.set_cons_zero,List.set_cons_succ]
      refine hP 13 (v:=?_) rfl (by kernel_rfl) (by rfl) ?_ ?_
      rotate_left
      focus (intro w;go_simp;try with_reducible rfl)
      try simp only [Act.put,List.setIfInBounds_toArray,List.set_cons_zero,List.set_cons_succ]
      refine hR [14] (by kernel_rfl) (by simp) (Ac.cons rfl (fun KH hKH=> ?_) .nil)
      go_simp
      (go_at_call 52;refine(HJT.out _ (by assumption) _ _ (by repeat (first | exact F6 Dz (by simp) rfl | refine Sl.Nl ?_ _ | refine Sl.later ?_ b6 (Nat.le_refl _) | refine Sl.Je ?_)) (by repeat (first | exact F6 Cz (by simp) rfl | refine Sl.Nl ?_ _ | refine Sl.later ?_ b6 (Nat.le_refl _) | refine Sl.Je ?_))).mono ?_;rintro e w8 ⟨rfl,b7⟩)
      refine hKH.out _ _ ?_ (fun hNew=> ?_)
      ·(first | exact(Below.refl _ _).drew | exact hHeld.alloc hHeld.size _ | exact hHeld.trans (b7.mono hHeld.size) | exact hHeld.trans (b6.mono hHeld.size) | exact hHeld)
      clear hKH KH hHeld
      have hHeld:=hNew
      clear hNew
      try simp only [Act.put,List.setIfInBounds_toArray,List.set_cons_zero,List.set_cons_succ]
      refine hP 15 (v:=?_) rfl (by kernel_rfl) (by rfl) ?_ ?_
      rotate_left
      focus (intro w;go_simp;try with_reducible rfl)
      refine hP 16 (v:=?_) rfl (by kernel_rfl) (by rfl) ?_ ?_
      rotate_left
      focus (intro w;go_simp;try with_reducible rfl)
      refine hP 17 (v:=?_) rfl (by kernel_rfl) (by rfl) ?_ ?_
      rotate_left
      focus (intro w;go_simp;try with_reducible rfl)
      try simp only [Act.put,List.setIfInBounds_toArray,List.set_cons_zero,List.set_cons_succ]
      refine hR [18] (by kernel_rfl) (by simp) (Ac.A7 rfl (by kernel_rfl) (fun KH hKH=> ?_) .nil)
      have h9:=HF6.out.later hHeld
      have HB3:=Aa hHeld
      have s4:=h9.bk.get (j:=4) rfl
      have z9:=h9.bk.fz 4
      rw [HFB3.out] at s4 z9
      have HV9:=Aa (cell_later hHeld HV3.out)
      have H9:=Aa h9
      clear h9 b6 b7 HJT HOU6
      go_simp
      refine hKH.out _ _ ?_
      clear hKH KH
      try clear hHeld
      refine Ai (by kernel_rfl) ?_ _
      refine NoPanic.normal ?_
      have hfin:=(Ps HFB3.out HHO.out (fun _ _=> rfl) HKW.out HB3.out HV9.out H9.out (F.log++en)).2
      rw [←HLQ.out,HFB3.out] at hfin
      have HFIN:=Aa hfin
      clear hfin s4 z9
      go_wp2
      exact bodyPost_ret (v:= .tuple #[]) (by simp [results,Tryz.results48,go_sem]) rfl ⟨rfl,by rw [HLOG.out];exact HFIN.out⟩
     ·go_simp
      refine hKH.out _ _ ?_ (fun hNew=> ?_)
      ·(first | exact(Below.refl _ _).drew | exact hHeld.alloc hHeld.size _ | exact hHeld.trans (b7.mono hHeld.size) | exact hHeld.trans (b6.mono hHeld.size) | exact hHeld)
      clear hKH KH hHeld
      have hHeld:=hNew
      clear hNew
      try simp only [Act.put,List.setIfInBounds_toArray,List.set_cons_zero,List.set_cons_succ]
      refine hR [8] (by kernel_rfl) (by simp) (Ac.cons rfl (fun KH hKH=> ?_) .nil)
      go_simp
      refine hKH.out _ _ ?_ (fun hNew=> ?_)
      ·(first | exact(Below.refl _ _).drew | exact hHeld.alloc hHeld.size _ | exact hHeld.trans (b7.mono hHeld.size) | exact hHeld.trans (b6.mono hHeld.size) | exact hHeld)
      clear hKH KH hHeld
      have hHeld:=hNew
      clear hNew
      try simp only [Act.put,List.setIfInBounds_toArray,List.set_cons_zero,List.set_cons_succ]
      refine hP 13 (v:=?_) rfl (by kernel_rfl) (by rfl) ?_ ?_
      rotate_left
      focus (intro w;go_simp;try with_reducible rfl)
      try simp only [Act.put,List.setIfInBounds_toArray,List.set_cons_zero,List.set_cons_succ]
      refine hR [14] (by kernel_rfl) (by simp) (Ac.cons rfl (fun KH hKH=> ?_) .nil)
      go_simp
      (go_at_call 52;refine(HJT.out _ (by assumption) _ _ (by repeat (first | exact F6 Dz (by simp) rfl | refine Sl.Nl ?_ _ | refine Sl.later ?_ b6 (Nat.le_refl _) | refine Sl.Je ?_)) (by repeat (first | exact F6 Cz (by simp) rfl | refine Sl.Nl ?_ _ | refine Sl.later ?_ b6 (Nat.le_refl _) | refine Sl.Je ?_))).mono ?_;rintro e w8 ⟨rfl,b7⟩)
      refine hKH.out _ _ ?_ (fun hNew=> ?_)
      ·(first | exact(Below.refl _ _).drew | exact hHeld.alloc hHeld.size _ | exact hHeld.trans (b7.mono hHeld.size) | exact hHeld.trans (b6.mono hHeld.size) | exact hHeld)
      clear hKH KH hHeld
      have hHeld:=hNew
      clear hNew
      try simp only [Act.put,List.setIfInBounds_toArray,List.set_cons_zero,List.set_cons_succ]
      refine hP 15 (v:=?_) rfl (by kernel_rfl) (by rfl) ?_ ?_
      rotate_left
      focus (intro w;go_simp;try with_reducible rfl)
      refine hP 16 (v:=?_) rfl (by kernel_rfl) (by rfl) ?_ ?_
      rotate_left
      focus (intro w;go_simp;try with_reducible rfl)
      refine hP 17 (v:=?_) rfl (by kernel_rfl) (by rfl) ?_ ?_
      rotate_left
      focus (intro w;go_simp;try with_reducible rfl)
      try simp only [Act.put,List.setIfInBounds_toArray,List.set_cons_zero,List.set_cons_succ]
      refine hR [18] (by kernel_rfl) (by simp) (Ac.A7 rfl (by kernel_rfl) (fun KH hKH=> ?_) .nil)
      have h9:=HF6.out.later hHeld
      have HB3:=Aa hHeld
      have s4:=h9.bk.get (j:=4) rfl
      have z9:=h9.bk.fz 4
      rw [HFB3.out] at s4 z9
      have HV9:=Aa (cell_later hHeld HV3.out)
      have H9:=Aa h9
      clear h9 b6 b7 HJT HOU6
      go_simp
      refine hKH.out _ _ ?_
      clear hKH KH
      try clear hHeld
      refine Ai (by kernel_rfl) ?_ _
      refine NoPanic.normal ?_
      have hfin:=(Ps HFB3.out HHO.out (fun _ _=> rfl) HKW.out HB3.out HV9.out H9.out (F.log++en)).2
      rw [←HLQ.out,HFB3.out] at hfin
      have HFIN:=Aa hfin
      clear hfin s4 z9
      go_wp2
      exact bodyPost_ret (v:= .tuple #[]) (by simp [results,Tryz.results48,go_sem]) rfl ⟨rfl,by rw [HLOG.out];exact HFIN.out⟩
end
end Go.Proofs.YtbibeionenjmfaaGreatDoor
namespace Go.Proofs.YtbibeionenjmfaaGreatDoor
open Go.RowKit
theorem U9 {α:Type} (l:List α) (i:Nat) (f g:α→α):(l.modify i f).modify i g=l.modify i (g ∘ f):=by
 apply List.ext_getElem?
 intro j
 rw [get_modify,get_modify,get_modify]
 by_cases hj:i=j
 ·rw [if_pos hj,if_pos hj,if_pos hj]
  cases l[j]? <;> rfl
 ·rw [if_neg hj,if_neg hj,if_neg hj]
theorem Sc (F:Ad) (a b:Nat) (x y:F3):Aq (Aq F a b x) a b y=Aq F a b y:=by
 unfold Aq
 dsimp only
 rw [U9]
 congr 1
 refine congrArg (fun f=> F.Ap.modify a f) (funext fun row=> ?_)
 simp [List.set_set]
theorem Abt {F:Ad} {a b:Nat} {t:F3} {many:Int} (ht:Aw F a b=some t) (hoff:t.on=false):Cq F a b many=F:=by
 unfold Cq
 unfold Aw at ht
 rw [ht]
 dsimp only
 rw [if_pos hoff]
theorem Vz {F:Ad} {a b:Nat} {t:F3} {p:As} {many:Int} (ht:Aw F a b=some t) (hon:t.on=true) (hp:ofM F t.t=some p):
 Cq F a b many=if Fo t.at_ many p < p.many then Aq F a b {t with at_:=Fo t.at_ many p} else U3 (Aq F a b {t with at_:=Fo t.at_ many p}) a b t.t (decide (p.st=2)):=by
 unfold Cq
 unfold Aw at ht
 rw [ht]
 dsimp only
 rw [if_neg (by rw [hon];simp),hp]
 dsimp only
 obtain⟨nn,hnn⟩:∃ nn,nn=Fo t.at_ many p:=⟨_,rfl⟩
 rw [show(if 0 < many then t.at_+min many.toNat (p.many - t.at_) else t.at_)=nn from hnn.symm,←hnn]
 by_cases hn:nn < p.many
 ·rw [if_pos hn,if_pos hn]
 ·rw [if_neg hn,if_neg hn]
  unfold U3
  rw [Sc]
  by_cases hst:p.st=2
  ·rw [decide_eq_true hst,if_pos rfl,if_pos hst]
  ·rw [decide_eq_false hst,if_neg hst,if_neg (show ¬ (false=true) by simp)]
   rfl
end Go.Proofs.YtbibeionenjmfaaGreatDoor
namespace Go.Proofs.YtbibeionenjmfaaGreatDoor
open Go.RowKit
section
variable {w0 w w' W:World} {own:Nat→Eu} {G:Bb} {F:Ad} {n:Nat} {g:El} {o:Bg}
theorem Es.Td (h:Es W w' own n g o) (hs:w.heap.size≤W.heap.size):Es w w' own n g o:=
 ⟨h.hd,⟨h.tk.rt.Bo hs,h.tk.ot⟩,⟨h.pt.po.Bo hs,h.pt.op,h.pt.pn,h.pt.li,fun i p lv ov a b c=> by
  obtain⟨ob,vs,e,h1⟩:=h.pt.mp i p lv ov a b c
  exact⟨ob,vs,e,h1.rws.Bo hs,h1.o1,h1.o2⟩⟩,⟨h.os.os.Bo hs,h.os.oo,h.os.on_,h.os.od⟩,h.sv⟩
theorem Bx.Td {a b c:Nat} {t:Eg} {v:Value} (h:Bx W w' own a b g o t c v) (hs:w.heap.size≤W.heap.size):Bx w w' own a b g o t c v:=by
 unfold Bx at h ⊢
 split at h
 ·rename_i hf
  rw [if_pos hf]
  obtain⟨B,vf,e,⟨h1,h2⟩,h3⟩:=h
  exact⟨B,vf,e,⟨Nat.le_trans hs h1,h2⟩,h3⟩
 ·rename_i hf
  rw [if_neg hf]
  obtain⟨B,vm,e,⟨h1,h2,h4⟩,h3⟩:=h
  exact⟨B,vm,e,⟨h1,Nat.le_trans hs h2,h4⟩,h3⟩
theorem Bv.Td (h:Bv W w' own G F) (hb:Below w.heap.size w W) (hg:GW w):Bv w w' own G F where
 gw:=hg
 Gj:=hb.trans (h.Gj.mono hb.size)
 lo:=fun q hq=> ⟨Nat.le_trans hb.size (h.lo q hq).1,(h.lo q hq).2⟩
 bk:=h.bk
 oh:=h.oh
 qs:=h.qs
 oq:=h.oq
 bt:=h.bt.Bo hb.size
 ob:=h.ob
 rn:=h.rn
 Oq:=h.Oq
 rd:=h.rd
 rr:=fun a b t h1 h2=> by
  obtain⟨v,g,o,e1,e2,e3,e4⟩:=h.rr a b t h1 h2
  exact⟨v,g,o,e1,e2,e3,e4.Td hb.size⟩
 jo:=h.jo.Bo hb.size
 oj:=h.oj
 jn:=h.jn
 js:=fun n g o h1 h2=> (h.js n g o h1 h2).Td hb.size
theorem Bv.Alv {T:Nat} (h:Bv w0 w own G F) (k:Ab (fun q=> q=T) w w') (hT:own T= .out) (hl:w0.heap.size≤T):Bv w0 w' own G F:=h.Acp k fun q hq=> by rw [hq];exact⟨hT,hl⟩
theorem Al7 (w:World) (b:Nat) (v0 v1 v2 v3 v4 v5:Value):Ab (fun q=> q=b) w ((((((w.setCell ⟨b,0,none⟩ v0).setCell ⟨b,1,none⟩ v1).setCell ⟨b,2,none⟩ v2).setCell ⟨b,3,none⟩ v3).setCell ⟨b,4,none⟩ v4).setCell ⟨b,5,none⟩ v5):=
 ((((((Ab.refl (fun q=> q=b) w).setCell (p:=⟨b,0,none⟩) rfl v0).setCell (p:=⟨b,1,none⟩) rfl v1).setCell (p:=⟨b,2,none⟩) rfl v2).setCell (p:=⟨b,3,none⟩) rfl v3).setCell (p:=⟨b,4,none⟩) rfl v4).setCell (p:=⟨b,5,none⟩) rfl v5
end
section
variable {w0 w w' wr wc w2:World} {own own':Nat→Eu} {G G':Bb} {F F1 F2:Ad}
structure Gh (w0 w:World) (own:Nat→Eu) (G:Bb) (F':Ad) (wr:World) (own':Nat→Eu) (G':Bb):Prop where
 fl:Bv w0 wr own' G' F'
 fb:G'.fb=G.fb
 ag:∀ q,q < w.heap.size→own' q=own q
 kb:Ab (fun q=> own q≠ .out) w wr
theorem Gh.start (h:Bv w0 w own G F) (hb:Below w.heap.size w w'):Gh w0 w own G F w' own G:=
 ⟨h.later hb,rfl,fun _ _=> rfl,Ab.Ag hb (Nat.le_refl _)⟩
theorem Gh.later (h:Gh w0 w own G F1 wr own' G') (hb:Below wr.heap.size wr w'):Gh w0 w own G F1 w' own' G':=
 ⟨h.fl.later hb,h.fb,h.ag,h.kb.trans (Ab.Ag hb (Nat.le_refl _))⟩
theorem Gh.ft (h:Gh w0 w own G F1 wr own' G'):B3 w0 w own G F1 wr:=⟨⟨own',G',h.fl,h.fb,h.ag⟩,h.kb⟩
theorem Gh.next (h:Gh w0 w own G F1 wr own' G') {own2:Nat→Eu} {G2:Bb} (hf:Bv w0 w2 own2 G2 F2) (hfb:G2.fb=G'.fb) (ha:∀ q,q < wr.heap.size→own2 q=own' q) (k:Ab (fun q=> own' q≠ .out) wr w2):Gh w0 w own G F2 w2 own2 G2:=
 ⟨hf,hfb.trans h.fb,fun q hq=> (ha q (Nat.lt_of_lt_of_le hq h.kb.size)).trans (h.ag q hq),h.kb.more k fun q hq=> by
  by_cases hl:q < w.heap.size
  ·rw [h.ag q hl] at hq;exact .inl hq
  ·exact .inr (by omega)⟩
theorem Gh.turn (h:Gh w0 w own G F1 wr own' G') (hb:Below wr.heap.size wr wc) (h2:B3 w0 wc own' G' F2 w2):∃ own2 G2,Gh w0 w own G F2 w2 own2 G2∧(∀ q,q < wc.heap.size→own2 q=own' q)∧Ab (fun q=> own' q≠ .out) wr w2:=by
 obtain⟨⟨own2,G2,hf,hfb,ha⟩,k⟩:=h2
 have k2:=(Ab.Ag (S:=fun q=> own' q≠ .out) hb (Nat.le_refl _)).trans k
 exact⟨own2,G2,h.next hf hfb (fun q hq=> ha q (Nat.lt_of_lt_of_le hq hb.size)) k2,ha,k2⟩
def Anz (own:Nat→Eu) (v:Value):Prop:=∀ q,v.ownBlock=some q→own q= .out
theorem Own.Ah8 {α:Type} {sz:Nat} {enc:α→List Value} {e:TypeId} {base:Nat} {v:Value} {l:List α} {own2:Nat→Eu} (ho:Own sz enc e wr base v l) (hm:Anz own' v) (k:Ab (fun q=> own' q≠ .out) wr w2) (ha:∀ q,q < wr.heap.size→own2 q=own' q):Own sz enc e w2 base v l∧Anz own2 v:=
 ⟨k.own ho fun q hq e=> e (hm q hq),fun q hq=> (ha q (ho.lt q hq).2).trans (hm q hq)⟩
theorem Own.slc {α:Type} {sz:Nat} {enc:α→List Value} {e:TypeId} {base n cap:Nat} {ao:Option Addr} {l:List α} (h:Own sz enc e w base (.slice ao n cap) l) (hsz:∀ x,(enc x).length=sz):Sl sz enc w ao l:=by
 obtain rfl:=h.len
 exact h.sl hsz
theorem Kj {W w:World} {B:Nat} {cs:Array Value} {t:TypeId} {l:List Value} (_:Below B W w) (hc:cs.toList=l):Bk (w.alloc (.cells cs t)) w.heap.size l:=Bk.new hc
theorem Bv.Aow (h:Bv w0 w own G F) (a b:Nat) (ha:a≤1000000) (hb:b≤1000000):∃ r0 r1:Option Addr,(∀ w',Below w.heap.size w w'→(Instr.lookup 87 (.map (some G.mb)) (.agg #[.int .i64 a, .int .i64 b]) false).run Tryz.prog w'= .ok (.agg #[.pointer r0, .pointer r1]) w')∧∀ v,G.rf (Bz a b)=some v→v= .agg #[.pointer r0, .pointer r1]:=by
 cases hv:G.rf (Bz a b) with
 | none=>
   refine⟨none,none,fun w' k=> ?_,fun v e=> by cases e⟩
   have:=(h.later k).Aeb a b ha hb
   rw [hv] at this
   exact this
 | some v=>
   obtain⟨_,r0,r1,e⟩:=h.rd (Bz a b) (by rw [hv];simp)
   rw [hv] at e
   cases e
   refine⟨r0,r1,fun w' k=> ?_,fun v e=> by cases e;rfl⟩
   have:=(h.later k).Aeb a b ha hb
   rw [hv] at this
   exact this
end
end Go.Proofs.YtbibeionenjmfaaGreatDoor
namespace Go.Proofs.YtbibeionenjmfaaGreatDoor
open Go.RowKit
def U8:Nat:=110000000000
def stB:Nat:=4 * U8
theorem Ako:stB=4 * U8:=rfl
structure Ky (F:Ad) (k:Nat):Prop extends Dw F where
 Wm:Ii F
 lg:F.log.length≤k * stB
theorem Ky.lgk {F:Ad} {k:Nat} (h:Ky F k) (hk:k≤10000):F.log.length≤900000000000000000:=Nat.le_trans h.lg (Nat.le_trans (Nat.mul_le_mul_right _ hk) (by decide))
theorem Qw {Al:List (Int×Int)} {workers Ap:Nat} (hq:Fx Al=0) (hw:1≤workers∧workers≤4) (hs:1≤Ap∧Ap≤3):Ky (Gi Al workers Ap) 0:=
 ⟨Ti hq hw hs,fun n o ho=> by unfold Gi at ho;simp at ho,by unfold Gi;simp⟩
theorem Ii.small {F:Ad} (h:Ii F) (hi:Fz F) {n:Nat} {o:Bg} (ho:F.Aj[n]?=some o):∀ t∈o.out,t.size≤10000000:=fun t ht=> by
 rw [h n o ho] at ht
 unfold Of at ht
 obtain⟨k,hk,rfl⟩:=List.mem_map.1 ht
 have hf:=hi.Hj n o ho
 have hks:k < o.slices:=List.mem_range.1 hk
 have h1:=hf.Te k (Ae o.fold (B8 o k)).length
 rw [List.take_length,hf.Ld hks] at h1
 rw [Ak]
 omega
theorem Ake {F:Ad} {j i:Nat} {s:ByteArray} (hj:j≤1000000) (hi:i≤1000000) (hs:s.size≤10000000):(Kt (tx Uv, [(j:Int),(i:Int)], [s])).length≤U8:=by
 have h:=Sr (k:=tx Uv) (N:= [(j:Int),(i:Int)]) (T:= [s]) (by decide) (by
  intro x hx
  simp at hx
  rcases hx with rfl | rfl <;> constructor <;> omega) (by simp) (by simp) (by
  intro t ht
  simp at ht
  rw [ht];exact hs)
 rw [Ak] at h
 exact h
theorem Ac5 {F:Ad} (h:Fz F) (ho:Ii F) (w k:Nat) (many:Int):(Cq F w k many).log.length≤F.log.length+U8:=by
 unfold Cq
 split
 ·omega
 ·next a _=>
  split
  ·omega
  ·split
   ·omega
   ·next p hp=>
    dsimp only
    generalize (if 0 < many then a.at_+min many.toNat (p.many - a.at_) else a.at_)=n
    split
    ·show F.log.length≤_;omega
    ·split
     ·show F.log.length≤_;omega
     ·split
      ·obtain⟨o,hj,hl⟩:=Iy hp
       have h1:=(List.getElem?_eq_some_iff.1 hj).1
       have h2:=h.jl
       have h3:=(List.getElem?_eq_some_iff.1 hl).1
       have h4:=(h.Hj _ o hj).len a.t.2.1
       have hi:a.t.2.2≤1000000:=by
        have hf:=h.Hj _ o hj
        have h5:=hf.Ln
        have h6:=hf.M4
        have h7:=hf.Aeg
        unfold Er at h3
        split at h3 <;> omega
       have hs:(((F.Aj[a.t.1]?).bind fun o=> o.out[a.t.2.2]?).getD (tx [])).size≤10000000:=by
        rw [hj]
        simp only [Option.bind_some]
        cases hq:o.out[a.t.2.2]? with
        | none=> decide
        | some s=> exact ho.small h hj s (List.mem_of_getElem? hq)
       have:=Ake (F:=F) (j:=a.t.1) (i:=a.t.2.2) (by omega) hi hs
       show(F.log++_).length≤_
       rw [List.length_append]
       omega
      ·show F.log.length≤_;omega
theorem Ol {F:Ad} (h:Dw F) (ho:Ii F) (w:Nat) (many:Int):∀ k,Ii (Ct F w many k)∧(Ct F w many k).log.length≤F.log.length+k * U8
 | 0=> ⟨ho,Nat.le_add_right _ _⟩
 | k+1=> by
   obtain⟨h1,h2⟩:=Ol h ho w many k
   refine⟨ho.keys (My F w many (k+1)),?_⟩
   have:=Ac5 (Dw.Ct h w many k).toFz h1 w k many
   show(Cq (Ct F w many k) w k many).log.length≤_
   rw [Nat.succ_mul]
   omega
theorem Ky.work {F:Ad} {k:Nat} (h:Ky F k) (w many:Int):Ky (H4 F w many).2 (k+1):=by
 refine⟨h.toDw.work w many,h.Wm.keys (Agi F w many),?_⟩
 have hl:=h.lg
 rw [Nat.succ_mul]
 unfold H4
 split
 ·dsimp only;omega
 ·split
  ·dsimp only;omega
  ·next row hr=>
   have h1:=(Ol h.toDw h.Wm w.toNat many row.length).2
   obtain⟨n,hn,hrow⟩:=h.rows
   have h2:=hrow row (List.mem_of_getElem? hr)
   have h3:=Nat.mul_le_mul_right U8 (show row.length≤3 by omega)
   have h4:=Ako
   dsimp only
   omega
theorem Ky.offer {F:Ad} {k:Nat} (h:Ky F k) (w:Int):Ky (E5 F w).2 k:=by
 refine⟨h.toDw.offer w,h.Wm.keys (Adb F w),?_⟩
 have:(E5 F w).2.log=F.log:=by
  unfold E5
  dsimp only
  split
  ·rfl
  ·split <;> rfl
 rw [this];exact h.lg
theorem Ky.Ok {F:Ad} {k:Nat} (h:Ky F k) (q:Int) (prog inp:List UInt8) (size:Int) (hp:prog.length≤100000) (hi:inp.length≤1000000):Ky (Cx F q prog inp size).2 (k+1):=by
 refine⟨h.toDw.Ok q prog inp size,h.Wm.Ok q prog inp size,?_⟩
 have hl:=h.lg
 rw [Nat.succ_mul]
 have hq:=(Aeo h.qs).1
 unfold Cx
 dsimp only
 rcases Mo F q prog inp size with ⟨h1,_⟩ | ⟨h1,h2,h3,_⟩
 ·rw [if_pos h1];dsimp only;omega
 ·rw [if_neg (by rw [h1];simp)]
  have:=Sr (k:=tx Vd) (N:= [q,size]) (T:= [tx prog,tx inp]) (by decide) (by
   intro x hx
   simp at hx
   rcases hx with rfl | rfl <;> constructor <;> omega) (by simp) (by simp) (by
   intro t ht
   simp at ht
   rcases ht with rfl | rfl <;> rw [Ak] <;> omega)
  rw [Ak] at this
  have h4:=Ako
  have h6:(110000000000:Nat)=U8:=rfl
  rw [h6] at this
  show(F.log++_).length≤_
  rw [List.length_append]
  omega
end Go.Proofs.YtbibeionenjmfaaGreatDoor
namespace Go.Proofs.YtbibeionenjmfaaGreatDoor
open Go.RowKit
section
variable {w0 w w' wr:World} {own own':Nat→Eu} {G G':Bb} {F F1:Ad}
structure Ij (w0 w:World) (own:Nat→Eu) (G:Bb) (F':Ad) (ao:Option Addr) (n cap a:Nat) (wr:World) (own':Nat→Eu) (G':Bb):Prop where
 t:Gh w0 w own G F' wr own' G'
 pl:Own 2 B6 60 wr w.heap.size (.slice ao n cap) (Fh a n)
 out:Anz own' (.slice ao n cap)
theorem Ij.turn {ao:Option Addr} {n cap a:Nat} {wc w2:World} {F2:Ad} (h:Ij w0 w own G F1 ao n cap a wr own' G') (hb:Below wr.heap.size wr wc) (h2:B3 w0 wc own' G' F2 w2):∃ own2 G2,Ij w0 w own G F2 ao n cap a w2 own2 G2:=by
 obtain⟨own2,G2,ht,ha,k⟩:=h.t.turn hb h2
 obtain⟨h3,h4⟩:=h.pl.Ah8 h.out k fun q hq=> ha q (Nat.lt_of_lt_of_le hq hb.size)
 exact⟨own2,G2,ht,h3,h4⟩
theorem Ij.later {ao:Option Addr} {n cap a:Nat} {wc:World} (h:Ij w0 w own G F1 ao n cap a wr own' G') (hb:Below wr.heap.size wr wc):Ij w0 w own G F1 ao n cap a wc own' G':=
 ⟨h.t.later hb,(Ab.Ag (S:=fun _=> False) hb (Nat.le_refl _)).own h.pl fun _ _=> id,h.out⟩
theorem Ij.next {ao:Option Addr} {n cap a:Nat} {wc w2:World} {F2:Ad} {own2:Nat→Eu} {G2:Bb} (h:Ij w0 w own G F1 ao n cap a wr own' G') (hb:Below wr.heap.size wr wc) (hf:Bv w0 w2 own2 G2 F2) (hfb:G2.fb=G'.fb) (ha:∀ q,q < wc.heap.size→own2 q=own' q) (k:Ab (fun q=> own' q≠ .out) wc w2):Ij w0 w own G F2 ao n cap a w2 own2 G2:=by
 have h':=h.later hb
 obtain⟨h3,h4⟩:=h'.pl.Ah8 h'.out k ha
 exact⟨h'.t.next hf hfb ha k,h3,h4⟩
theorem Afs {a b:Nat} {t:F3} {v:Value} {p:As} (h:Bv w0 w own G F) (hi:Fz F) (ht:Aw F a b=some t) (hon:t.on=true) (hv:G.rf (Bz a b)=some v) (hp:ofM F t.t=some p) (hat:t.at_≤p.many) (many:Int) (hmany:many≤9223372036854775807):
 Calls Tryz.prog 47 #[v, .int .i64 many] w fun e w'=> e= .returned (.bool (decide (¬ Fo t.at_ many p < p.many)))∧Ab (fun q=> own q= .run a b) w w'∧B3 w0 w own G (Aq F a b {t with at_:=Fo t.at_ many p}) w'∧Bv w0 w' (Dk own w.heap.size w'.heap.size (.run a b)) G (Aq F a b {t with at_:=Fo t.at_ many p}):=by
 refine(Ach h hi ht hon hv hp hat many hmany).mono ?_
 rintro e w' ⟨rfl,k,hf⟩
 refine⟨rfl,k,⟨⟨_,_,hf,rfl,fun q hq=> Cd (by omega)⟩,k.mono fun q hq=> by rw [hq];simp⟩,hf⟩
set_option maxRecDepth 100000 in
set_option maxHeartbeats 4000000 in
theorem Vq (wk many:Int) (h:Bv w0 w own G F) (hi:Dw F) (hou:Ii F) (hlg:F.log.length≤900000000000000000) (hmany:many≤9223372036854775807):
 Calls Tryz.prog 18 #[.pointer (some ⟨G.fb,0,none⟩), .int .i64 wk, .int .i64 many] w fun e w'=> e= .returned (Ed (H4 F wk many).1)∧B3 w0 w own G (H4 F wk many).2 w':=by
 by_cases hw:0≤wk∧wk < F.Ap.length
 ·obtain⟨a,rfl⟩:∃ a:Nat,wk=a:=⟨wk.toNat,by omega⟩
  have hal:a < F.Ap.length:=by omega
  obtain⟨row,hrow⟩:∃ row,F.Ap[a]?=some row:=⟨_,List.getElem?_eq_getElem hal⟩
  have hn:=h.Vx hrow
  have HWM:Hid (H4 F (a:Int) many=(0,Ct F a many G.n)):=by
   show _=_
   unfold H4
   rw [if_neg (by omega),Int.toNat_natCast,hrow]
   dsimp only
   rw [hn]
  have HS:=Aa (Adi h hal)
  have HST:=Aa fun(w1:World) (hb:Below w.heap.size w w1)=> Gh.start h hb
  have HOG:=Aa fun(q:Nat) (hq:w.heap.size≤q)=> h.Dg hq
  have HINV:=Aa fun k=> hi.Ct a many k
  have HLOG:=Aa fun k=> Ol hi hou a many k
  have ha4:a < 4:=by have:=h.bt.lr;have:=h.rows;omega
  have hn3:G.n≤3:=h.bt.ln
  have HSLT:Hid (∀ k b,b < G.n→∃ t,Aw (Ct F a many k) a b=some t):=by
   intro k b hb
   exact Rt (t:=row[b]) (by unfold Aw;rw [hrow];exact List.getElem?_eq_getElem (by omega)) k
  clear hw hal hrow hn h hi hou
  generalize G.n=n at *
  go_enter Tryz.func18,Tryz.ntmps18
  go_wp2_with fail
  refine HS.out.mono ?_
  rintro e w1 ⟨ao,cap,rfl,hpl,b1⟩
  have HR0:Hid (Ij w0 w own G (Ct F a many 0) ao n cap a w1 own G):=⟨HST.out w1 b1,hpl,fun q hq=> HOG.out q (hpl.lt q hq).1⟩
  clear HS HST hpl b1
  go_wp2
  go_loopw [22] (fun iv wr=> ∃ k:Nat,k≤n∧iv= .int .i64 k∧Hid (∃ own' G',Ij w0 w own G (Ct F a many k) ao n cap a wr own' G')) (fun iv _=> n - (intOf iv).toNat)
  case atStart=> exact⟨0,by omega,by go_num,⟨_,_,HR0.out⟩⟩
  case round=>
   clear HR0
   obtain⟨k,hk,rfl,HR⟩:=hrel
   by_cases hlt:k < n
   ·obtain⟨own',G',hr⟩:=HR.out
    have hsl:=hr.pl.slc Ba
    obtain⟨pb,poff,x0,y0,rfl,hpb,hxy,c0,c1⟩:=hsl.Agj (k:=k) (by rw [K7];exact hlt)
    rw [Yg hlt] at hxy
    injection hxy with hxy
    injection hxy with hx hy
    subst hx hy
    obtain⟨W,hW⟩:∃ W,W=wr.alloc (.cells #[.int .i64 a, .int .i64 k] 60):=⟨_,rfl⟩
    have hb0:Below wr.heap.size wr W:=by rw [hW];exact ba wr _
    have hpb2:Bk W wr.heap.size [.int .i64 a, .int .i64 k]:=by rw [hW];exact Bk.new rfl
    have hfW:=hr.t.fl.later hb0
    obtain⟨st,hst⟩:=HSLT.out k k hlt
    have hin:inM (Ct F a many k) (a:Int) (k:Int)=if st.on=true then(st.t,0) else(F4,7):=Aki hst
    obtain⟨r0,r1,hlk,hrv⟩:=hfW.Aow a k (by omega) (by omega)
    have HRR:=Aa hr
    have HFW:=Aa hfW
    have HIN:=Aa fun w' (hb:Below W.heap.size W w')=> Al9 (a:Int) (k:Int) (hfW.later hb)
    rw [hin] at HIN
    obtain⟨tv,er,htv⟩:∃ tv er,(if st.on=true then(st.t,0) else(F4,7):Eg×Int)=(tv,er):=⟨_,_,rfl⟩
    rw [htv] at HIN
    have HTV:=Aa htv
    have HST:=Aa hst
    have HB0:=Aa hb0
    have HPB:=Aa hpb2
    have HLK:=Aa hlk
    have HRV:=Aa hrv
    have q0:=hpb2.get (j:=0) rfl
    have q1:=hpb2.get (j:=1) rfl
    have d1:=hfW.bk.get (j:=1) rfl
    have d2:=hfW.bk.get (j:=2) rfl
    rw [hr.t.fb] at d1 d2
    have HW:=Aa hW
    unfold Cu at HIN
    obtain⟨tn,tf,ti⟩:=tv
    dsimp only at HIN
    clear hr hsl HR hW hb0 hpb2 hfW hst hin hlk hrv htv
    go_upto_region 5 with (fail)
    rw [←HW.out]
    clear HW c0 c1
    go_cut [11,12] from 26 to 34 (fun tv ev wc=> ∃ tb,tv= .pointer (some ⟨tb,0,none⟩)∧ev=Ed er∧Hid (Bk wc tb [.int .i64 tn, .bool tf, .int .i64 ti])∧Hid (W.heap.size≤tb)∧Hid (Below W.heap.size W wc))
    case first=>
     refine wp_region_noPanic ?_
     refine Ah (S:=(fun w'=> Below W.heap.size W w')) (E:= [10]) (by kernel_rfl) ?_ (fun hHeld=> ?_)
     ·(first | exact(Below.refl _ _).drew | exact hHeld.alloc hHeld.size _ | exact hHeld.trans (b2.mono hHeld.size) | exact hHeld)
     try dsimp only [List.size_toArray,List.length_cons,List.length_nil,Nat.reduceAdd]
     refine hP 0 (v:=?_) rfl (by kernel_rfl) (by rfl) ?_ ?_
     rotate_left
     focus (intro w;go_simp;try with_reducible rfl)
     try simp only [Act.put,List.setIfInBounds_toArray,List.set_cons_zero,List.set_cons_succ]
     refine hT 4 [[4]] (v:=?_) rfl (by kernel_rfl) (by rfl) (by assumption) ?_ ?_
     rotate_left
     focus (intro w hSw;(try dsimp only at hSw);(have t0:=cell_later hSw q0;have t1:=cell_later hSw q1;have t2:=cell_later hSw d1);go_simp;try with_reducible rfl)
     try simp only [Act.put,List.setIfInBounds_toArray,List.set_cons_zero,List.set_cons_succ]
     refine hP 1 (v:=?_) rfl (by kernel_rfl) (by rfl) ?_ ?_
     rotate_left
     focus (intro w;go_simp;try with_reducible rfl)
     try simp only [Act.put,List.setIfInBounds_toArray,List.set_cons_zero,List.set_cons_succ]
     refine hP 2 (v:=?_) rfl (by kernel_rfl) (by rfl) ?_ ?_
     rotate_left
     focus (intro w;go_simp;try with_reducible rfl)
     try simp only [Act.put,List.setIfInBounds_toArray,List.set_cons_zero,List.set_cons_succ]
     refine hT 3 [[3]] (v:=?_) rfl (by kernel_rfl) (by rfl) (by assumption) ?_ ?_
     rotate_left
     focus (intro w hSw;(try dsimp only at hSw);(have t0:=cell_later hSw q0;have t1:=cell_later hSw q1;have t2:=cell_later hSw d1);go_simp;try with_reducible rfl)
     try simp only [Act.put,List.setIfInBounds_toArray,List.set_cons_zero,List.set_cons_succ]
     refine hR [5,9] (by kernel_rfl) (by simp) (Ac.cons rfl (fun KH hKH=> ?_) (Ac.cons rfl (fun KH hKH=> ?_) .nil))
     ·go_simp
      (go_at_call 46;refine(HIN.out _ hHeld).mono ?_;rintro e w2 ⟨rfl,b2⟩)
      try replace hbk0:=hbk0.later b2
      refine hKH.out _ _ ?_ (fun hNew=> ?_)
      ·(first | exact(Below.refl _ _).drew | exact hHeld.alloc hHeld.size _ | exact hHeld.trans (b2.mono hHeld.size) | exact hHeld)
      clear hKH KH hHeld
      have hHeld:=hNew
      clear hNew
      try simp only [Act.put,List.setIfInBounds_toArray,List.set_cons_zero,List.set_cons_succ]
      refine hP 6 (v:=?_) rfl (by kernel_rfl) (by rfl) ?_ ?_
      rotate_left
      focus (intro w;go_simp;try with_reducible rfl)
      try simp only [Act.put,List.setIfInBounds_toArray,List.set_cons_zero,List.set_cons_succ]
      refine hP 7 (v:=?_) rfl (by kernel_rfl) (by rfl) ?_ ?_
      rotate_left
      focus (intro w;go_simp;try with_reducible rfl)
      try simp only [Act.put,List.setIfInBounds_toArray,List.set_cons_zero,List.set_cons_succ]
      refine hP 8 (v:=?_) rfl (by kernel_rfl) (by rfl) ?_ ?_
      rotate_left
      focus (intro w;go_simp;try with_reducible rfl)
      try simp only [Act.put,List.setIfInBounds_toArray,List.set_cons_zero,List.set_cons_succ]
      refine hR [9] (by kernel_rfl) (by simp) (Ac.cons rfl (fun KH hKH=> ?_) .nil)
      have hbk0:=Kj (cs:= #[.int .i64 0, .bool false, .int .i64 0]) (t:=33) hHeld rfl
      try (have hbkq:Bk _ W.heap.size _:=hbk0;clear hbk0;have hbk0:=hbkq)
      have hbn:=Kj (cs:= #[.int .i64 tn, .bool tf, .int .i64 ti]) (t:=33) hHeld rfl
      have hal:=hHeld.alloc hHeld.size (.cells #[.int .i64 tn, .bool tf, .int .i64 ti] 33)
      have hlo0:=hHeld.size
      go_simp
      refine hKH.out _ _ ?_ (fun hNew=> ?_)
      ·(first | exact(Below.refl _ _).drew | exact hHeld.alloc hHeld.size _ | exact hHeld.trans (b2.mono hHeld.size) | exact hHeld)
      clear hKH KH hHeld
      have hHeld:=hNew
      clear hNew
      try simp only [Act.put,List.setIfInBounds_toArray,List.set_cons_zero,List.set_cons_succ]
      refine hR [10] (by kernel_rfl) (by simp) (Ac.A7 rfl (by kernel_rfl) (fun KH hKH=> ?_) .nil)
      have c0:=hbk0.get (j:=0) rfl
      have c1:=hbk0.get (j:=1) rfl
      have c2:=hbk0.get (j:=2) rfl
      have z0:=hbk0.fz 0
      have z1:=hbk0.fz 1
      have z2:=hbk0.fz 2
      have hb9:=Hz (.int .i64 tn) (.bool tf) (.int .i64 ti) hHeld hlo0
      have hk9:=hbk0.s3 (.int .i64 tn) (.bool tf) (.int .i64 ti)
      go_simp
      refine hKH.out _ _ ?_
      clear hKH KH
      try clear hHeld
      try simp only [Act.put,List.setIfInBounds_toArray,List.set_cons_zero,List.set_cons_succ]
      refine hP 11 (v:=?_) rfl (by kernel_rfl) (by rfl) ?_ ?_
      rotate_left
      focus (intro w;go_simp;try with_reducible rfl)
      try simp only [Act.put,List.setIfInBounds_toArray,List.set_cons_zero,List.set_cons_succ]
      refine Ai (by kernel_rfl) ?_ _
      refine NoPanic.normal ?_
      go_wp2
      go_meet
      first | exact⟨_,rfl,rfl,hk9,hlo0,hb9⟩ | exact⟨_,rfl,rfl,hbn,hlo0,hal⟩
     ·have hbk0:=Kj (cs:= #[.int .i64 0, .bool false, .int .i64 0]) (t:=33) hHeld rfl
      try (have hbkq:Bk _ W.heap.size _:=hbk0;clear hbk0;have hbk0:=hbkq)
      have hbn:=Kj (cs:= #[.int .i64 tn, .bool tf, .int .i64 ti]) (t:=33) hHeld rfl
      have hal:=hHeld.alloc hHeld.size (.cells #[.int .i64 tn, .bool tf, .int .i64 ti] 33)
      have hlo0:=hHeld.size
      go_simp
      refine hKH.out _ _ ?_ (fun hNew=> ?_)
      ·(first | exact(Below.refl _ _).drew | exact hHeld.alloc hHeld.size _ | exact hHeld.trans (b2.mono hHeld.size) | exact hHeld)
      clear hKH KH hHeld
      have hHeld:=hNew
      clear hNew
      try simp only [Act.put,List.setIfInBounds_toArray,List.set_cons_zero,List.set_cons_succ]
      refine hR [5] (by kernel_rfl) (by simp) (Ac.cons rfl (fun KH hKH=> ?_) .nil)
      go_simp
      (go_at_call 46;refine(HIN.out _ hHeld).mono ?_;rintro e w2 ⟨rfl,b2⟩)
      try replace hbk0:=hbk0.later b2
      refine hKH.out _ _ ?_ (fun hNew=> ?_)
      ·(first | exact(Below.refl _ _).drew | exact hHeld.alloc hHeld.size _ | exact hHeld.trans (b2.mono hHeld.size) | exact hHeld)
      clear hKH KH hHeld
      have hHeld:=hNew
      clear hNew
      try simp only [Act.put,List.setIfInBounds_toArray,List.set_cons_zero,List.set_cons_succ]
      refine hP 6 (v:=?_) rfl (by kernel_rfl) (by rfl) ?_ ?_
      rotate_left
      focus (intro w;go_simp;try with_reducible rfl)
      try simp only [Act.put,List.setIfInBounds_toArray,List.set_cons_zero,List.set_cons_succ]
      refine hP 7 (v:=?_) rfl (by kernel_rfl) (by rfl) ?_ ?_
      rotate_left
      focus (intro w;go_simp;try with_reducible rfl)
      try simp only [Act.put,List.setIfInBounds_toArray,List.set_cons_zero,List.set_cons_succ]
      refine hP 8 (v:=?_) rfl (by kernel_rfl) (by rfl) ?_ ?_
      rotate_left
      focus (intro w;go_simp;try with_reducible rfl)
      try simp only [Act.put,List.setIfInBounds_toArray,List.set_cons_zero,List.set_cons_succ]
      refine hR [10] (by kernel_rfl) (by simp) (Ac.A7 rfl (by kernel_rfl) (fun KH hKH=> ?_) .nil)
      have c0:=hbk0.get (j:=0) rfl
      have c1:=hbk0.get (j:=1) rfl
      have c2:=hbk0.get (j:=2) rfl
      have z0:=hbk0.fz 0
      have z1:=hbk0.fz 1
      have z2:=hbk0.fz 2
      have hb9:=Hz (.int .i64 tn) (.bool tf) (.int .i64 ti) hHeld hlo0
      have hk9:=hbk0.s3 (.int .i64 tn) (.bool tf) (.int .i64 ti)
      go_simp
      refine hKH.out _ _ ?_
      clear hKH KH
      try clear hHeld
      try simp only [Act.put,List.setIfInBounds_toArray,List.set_cons_zero,List.set_cons_succ]
      refine hP 11 (v:=?_) rfl (by kernel_rfl) (by rfl) ?_ ?_
      rotate_left
      focus (intro w;go_simp;try with_reducible rfl)
      try simp only [Act.put,List.setIfInBounds_toArray,List.set_cons_zero,List.set_cons_succ]
      refine Ai (by kernel_rfl) ?_ _
      refine NoPanic.normal ?_
      go_wp2
      go_meet
      first | exact⟨_,rfl,rfl,hk9,hlo0,hb9⟩ | exact⟨_,rfl,rfl,hbn,hlo0,hal⟩
    case rest=>
     obtain⟨tb,rfl,rfl,HBT,HTL,HBW⟩:=hcut
     have hpc:=HPB.out.later HBW.out
     have s0:=hpc.get (j:=0) rfl
     have s1:=hpc.get (j:=1) rfl
     have s2:=cell_later HBW.out d2
     have HLK2:=Aa fun w' (hb:Below wc.heap.size wc w')=> HLK.out w' (HBW.out.trans (hb.mono HBW.out.size))
     have HPC:=Aa hpc
     clear q0 q1 d1 d2 HLK hpc
     go_upto_region 6 with (fail)
     go_cut [13] from 35 to 40 (fun rv w6=> ∃ rb,rv= .pointer (some ⟨rb,0,none⟩)∧Hid (Bk w6 rb [.pointer r0, .pointer r1])∧Hid (wc.heap.size≤rb)∧Hid (Below wc.heap.size wc w6))
     case first=>
      refine wp_region_noPanic ?_
      refine Ah (S:=(fun w'=> Below wc.heap.size wc w')) (E:= [7]) (by kernel_rfl) ?_ (fun hHeld=> ?_)
      ·(first | exact(Below.refl _ _).drew | exact hHeld.alloc hHeld.size _ | exact hHeld)
      try dsimp only [List.size_toArray,List.length_cons,List.length_nil,Nat.reduceAdd]
      refine hP 0 (v:=?_) rfl (by kernel_rfl) (by rfl) ?_ ?_
      rotate_left
      focus (intro w;go_simp;try with_reducible rfl)
      try simp only [Act.put,List.setIfInBounds_toArray,List.set_cons_zero,List.set_cons_succ]
      refine hT 4 [[4]] (v:=?_) rfl (by kernel_rfl) (by rfl) (by assumption) ?_ ?_
      rotate_left
      focus (intro w hSw;(try dsimp only at hSw);(have t0:=cell_later hSw s0;have t1:=cell_later hSw s1;have t2:=cell_later hSw s2;have lk:=HLK2.out _ hSw);go_simp;try with_reducible rfl)
      try simp only [Act.put,List.setIfInBounds_toArray,List.set_cons_zero,List.set_cons_succ]
      refine hP 1 (v:=?_) rfl (by kernel_rfl) (by rfl) ?_ ?_
      rotate_left
      focus (intro w;go_simp;try with_reducible rfl)
      try simp only [Act.put,List.setIfInBounds_toArray,List.set_cons_zero,List.set_cons_succ]
      refine hP 2 (v:=?_) rfl (by kernel_rfl) (by rfl) ?_ ?_
      rotate_left
      focus (intro w;go_simp;try with_reducible rfl)
      try simp only [Act.put,List.setIfInBounds_toArray,List.set_cons_zero,List.set_cons_succ]
      refine hT 3 [[3]] (v:=?_) rfl (by kernel_rfl) (by rfl) (by assumption) ?_ ?_
      rotate_left
      focus (intro w hSw;(try dsimp only at hSw);(have t0:=cell_later hSw s0;have t1:=cell_later hSw s1;have t2:=cell_later hSw s2;have lk:=HLK2.out _ hSw);go_simp;try with_reducible rfl)
      try simp only [Act.put,List.setIfInBounds_toArray,List.set_cons_zero,List.set_cons_succ]
      refine hT 5 [[5]] (v:=?_) rfl (by kernel_rfl) (by rfl) (by assumption) ?_ ?_
      rotate_left
      focus (intro w hSw;(try dsimp only at hSw);(have t0:=cell_later hSw s0;have t1:=cell_later hSw s1;have t2:=cell_later hSw s2;have lk:=HLK2.out _ hSw);go_simp;try with_reducible rfl)
      try simp only [Act.put,List.setIfInBounds_toArray,List.set_cons_zero,List.set_cons_succ]
      refine hR [6] (by kernel_rfl) (by simp) (Ac.cons rfl (fun KH hKH=> ?_) .nil)
      have hbn:=Kj (cs:= #[.pointer r0, .pointer r1]) (t:=112) hHeld rfl
      have hal:=hHeld.alloc hHeld.size (.cells #[.pointer r0, .pointer r1] 112)
      have hlo0:=hHeld.size
      go_simp
      refine hKH.out _ _ ?_ (fun hNew=> ?_)
      ·(first | exact(Below.refl _ _).drew | exact hHeld.alloc hHeld.size _ | exact hHeld)
      clear hKH KH hHeld
      have hHeld:=hNew
      clear hNew
      try simp only [Act.put,List.setIfInBounds_toArray,List.set_cons_zero,List.set_cons_succ]
      refine hR [7] (by kernel_rfl) (by simp) (Ac.A7 rfl (by kernel_rfl) (fun KH hKH=> ?_) .nil)
      go_simp
      refine hKH.out _ _ ?_
      clear hKH KH
      try clear hHeld
      refine Ai (by kernel_rfl) ?_ _
      refine NoPanic.normal ?_
      go_wp2
      go_meet
      exact⟨_,rfl,hbn,hlo0,hal⟩
     case rest=>
      obtain⟨rb,rfl,HBR,HRL,HBC⟩:=hcut
      clear s0 s1 s2 HLK2
      have HB6:Hid (Below W.heap.size W wc):=HBW.out.trans (HBC.out.mono HBW.out.size)
      have HWR:Hid (Below wr.heap.size wr wc):=HB0.out.trans (HB6.out.mono HB0.out.size)
      have hrbk:=HBR.out
      have v0:=hrbk.get (j:=0) rfl
      have v1:=hrbk.get (j:=1) rfl
      cases hon:st.on with
      | false=>
        have htv:=HTV.out
        rw [hon,if_neg (by simp)] at htv
        injection htv with _ e2
        subst e2
        rw [A0 (by decide)]
        have HNEXT:Hid (∃ own' G',Ij w0 w own G (Ct F a many (k+1)) (some ⟨pb,poff,none⟩) n cap a wc own' G'):=by
         refine⟨own',G',?_⟩
         show Ij w0 w own G (Cq (Ct F a many k) a k many) _ n cap a wc own' G'
         rw [Abt HST.out hon]
         exact HRR.out.later HWR.out
        clear hrbk v0 v1 HRR HFW HIN HTV HST HB0 HPB HRV HBT HTL HBW HPC HBR HRL HBC HB6 HWR hon
        go_wp2
        go_roundw
        case rel=> exact⟨k+1,by omega,by go_num,HNEXT⟩
        case measure=> (simp [intOf];try omega)
      | true=>
        have htv:=HTV.out
        rw [hon,if_pos rfl] at htv
        injection htv with e1 e2
        subst e2
        rw [A2]
        have hrc:=HRR.out.later HWR.out
        have hfc:=hrc.t.fl
        obtain⟨p,hp,hat⟩:=(HINV.out k).Ys a k st HST.out hon
        obtain⟨v,g,o,hv,hg,ho,hrun⟩:=hfc.rr a k st HST.out hon
        have hvv:=HRV.out v hv
        subst hvv
        have HSTEP:=Aa (Afs hfc (HINV.out k).toFz HST.out hon hv hp hat many hmany)
        have HPC2:=Aa ((HPC.out.later HBC.out))
        have HBT2:=Aa (HBT.out.later HBC.out)
        obtain⟨sn,hsn⟩:∃ sn,sn=Fo st.at_ many p:=⟨_,rfl⟩
        obtain⟨fin,hfin⟩:∃ fin,fin=decide (¬ sn < p.many):=⟨_,rfl⟩
        rw [←hsn,←hfin] at HSTEP
        have HSN:=Aa hsn
        have HFIN:=Aa hfin
        have HRC:=Aa hrc
        have HP:=Aa hp
        have HAT:=Aa hat
        have HV:=Aa hv
        have HO:=Aa ho
        have HON:=Aa hon
        have HE1:=Aa e1
        have HRBK:=Aa hrbk
        have HOUT:Hid (own' wr.heap.size= .out∧own' tb= .out∧own' rb= .out):=by
         have h1:=HB0.out.size
         have h2:wr.heap.size≤tb:=Nat.le_trans h1 HTL.out
         have h3:W.heap.size≤rb:=Nat.le_trans HBW.out.size HRL.out
         exact⟨HRR.out.t.fl.Dg (Nat.le_refl _),HRR.out.t.fl.Dg h2,HRR.out.t.fl.Dg (Nat.le_trans h1 h3)⟩
        clear hrc hfc hp hat hv hg ho hrun hsn hfin hon e1 hrbk HTV HIN HFW HRV HB0 HPB HBT HTL HBW HPC HBR HRL HBC HB6
        go_wp2_with fail
        refine HSTEP.out.mono ?_
        rintro e w7 ⟨rfl,k7,hft,hfl⟩
        have HK7:=Aa k7
        have HFL:=Aa hfl
        clear k7 hft hfl HSTEP v0 v1
        have HW7:=Aa (HRC.out.next (Below.refl _ _) HFL.out rfl (fun q hq=> Cd (by omega)) (HK7.out.mono fun q hq=> by rw [hq];simp))
        cases hfv:fin with
        | false=>
          have HNEXT:Hid (∃ own' G',Ij w0 w own G (Ct F a many (k+1)) (some ⟨pb,poff,none⟩) n cap a w7 own' G'):=by
           refine⟨Dk own' wc.heap.size w7.heap.size (.run a k),G',?_⟩
           show Ij w0 w own G (Cq (Ct F a many k) a k many) _ n cap a w7 _ _
           rw [Vz HST.out HON.out HP.out,←HSN.out,if_pos (by have:=HFIN.out;rw [hfv] at this;simpa using this.symm)]
           exact HW7.out
          clear HK7 HFL HW7 HRR HST HPC2 HBT2 HRBK HRC HP HAT HV HO HON HE1 HOUT HWR HSN HFIN hfv
          go_wp2
          go_roundw
          case rel=> exact⟨k+1,by omega,by go_num,HNEXT⟩
          case measure=> (simp [intOf];try omega)
        | true=>
          have hnl:¬ sn < p.many:=by have:=HFIN.out;rw [hfv] at this;simpa using this.symm
          have hsm:sn=p.many:=by
           have h1:=HAT.out
           have h2:sn≤p.many:=by rw [HSN.out];unfold Fo;split <;> omega
           omega
          obtain⟨o2,ho2,hpl2⟩:=Iy HP.out
          rw [HE1.out] at ho2 hpl2
          have HFF:=Aa (Zx (a:=a) (b:=k) (t:={st with at_:=sn}) (v:= .agg #[.pointer r0, .pointer r1]) HFL.out ((HINV.out k).toFz.Aq a k _) (by rw [Da,if_pos ⟨rfl,rfl⟩,HST.out];rfl) HON.out HE1.out HV.out ho2 hpl2 hsm ((HLOG.out k).1 _ _ ho2) (by
           have h1:=(HLOG.out k).2
           have h2:k * U8≤3 * U8:=Nat.mul_le_mul_right _ (by omega)
           have h3:3 * U8=330000000000:=rfl
           show(Ct F a many k).log.length≤_
           omega) ha4 (by omega))
          have hp7:=HPC2.out.kept HK7.out (by rw [HOUT.out.1];simp)
          have ht7:=HBT2.out.kept HK7.out (by rw [HOUT.out.2.1];simp)
          have hr7:=HRBK.out.kept HK7.out (by rw [HOUT.out.2.2];simp)
          have p0:=hp7.get (j:=0) rfl
          have p1:=hp7.get (j:=1) rfl
          have t0:=ht7.get (j:=0) rfl
          have t1:=ht7.get (j:=1) rfl
          have t2:=ht7.get (j:=2) rfl
          have v0:=hr7.get (j:=0) rfl
          have v1:=hr7.get (j:=1) rfl
          rw [HRR.out.t.fb] at HFF
          have HEQ:Hid (Ct F a many (k+1)=U3 (Aq (Ct F a many k) a k {st with at_:=sn}) a k (tn,tf,ti) (decide (p.st=2))):=by
           show Cq (Ct F a many k) a k many=_
           rw [Vz HST.out HON.out HP.out,←HSN.out,if_neg hnl,HE1.out]
          clear hp7 ht7 hr7 ho2 hpl2 hnl hsm HK7 HFL HRR HST HPC2 HBT2 HRBK HRC HP HAT HV HO HON HE1 HOUT HWR HSN HFIN hfv
          go_wp2_with fail
          refine HFF.out.mono ?_
          rintro e w8 ⟨rfl,hft⟩
          have HNEXT:Hid (∃ own' G',Ij w0 w own G (Ct F a many (k+1)) (some ⟨pb,poff,none⟩) n cap a w8 own' G'):=by
           rw [HEQ.out]
           exact HW7.out.turn (Below.refl _ _) hft
          clear hft HFF HW7 HEQ p0 p1 t0 t1 t2 v0 v1
          go_wp2
          go_roundw
          case rel=> exact⟨k+1,by omega,by go_num,HNEXT⟩
          case measure=> (simp [intOf];try omega)
   ·obtain rfl:k=n:=by omega
    obtain⟨own',G',hr⟩:=HR.out
    have HFT:=Aa hr.t.ft
    clear hr HR
    go_wp2
    go_ret
    rw [HWM.out]
    refine⟨?_,HFT.out⟩
    show _=Ending.returned (Ed 0)
    rw [A2]
    rfl
 ·have HWM:Hid (H4 F wk many=(5,F)):=by
   show _=_
   unfold H4
   by_cases h0:wk < 0
   ·rw [if_pos h0]
   ·rw [if_neg h0,List.getElem?_eq_none (by omega)]
  have HS:=Aa (Ah1 wk h hw)
  rw [A0 (by decide)] at HS
  have HSAME:=Aa fun(w1:World) (hb:Below w.heap.size w w1)=> B3.same h hb
  clear h hi hou hlg hw
  go_enter Tryz.func18,Tryz.ntmps18
  go_wp2_with fail
  refine HS.out.mono ?_
  rintro e w1 ⟨rfl,b1⟩
  have HB:=Aa (HSAME.out w1 b1)
  clear b1 HS HSAME
  go_wp2
  go_loopw [22] (fun iv wr=> iv= .int .i64 0∧wr=w1) (fun iv _=> 0)
  case atStart=> exact⟨by go_num,rfl⟩
  case round=>
   obtain⟨rfl,rfl⟩:=hrel
   go_wp2
   go_ret
   rw [HWM.out]
   refine⟨?_,HB.out⟩
   show _=Ending.returned (Ed 5)
   rw [A0 (by decide)]
   rfl
end
end Go.Proofs.YtbibeionenjmfaaGreatDoor
