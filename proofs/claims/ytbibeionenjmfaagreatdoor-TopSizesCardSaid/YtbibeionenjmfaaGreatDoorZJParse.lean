/- job.Parse: a text as a job. -/
import Derived.Test.YtbibeionenjmfaaGreatDoorZFloorN
set_option linter.unusedSimpArgs false
set_option linter.unusedVariables false
namespace Go.Proofs.YtbibeionenjmfaaGreatDoor
open Go.RowKit
structure Gj (w:World) (base:Nat) (v:Value) (l:List Ao):Prop where
 own:Own 15 A6 193 w base v l
 ts:∀ r∈l,∀ t∈ [r.val,r.key,r.cond],Nt (fun q=> base≤q∧v.ownBlock≠some q) w 6 t.tree t.cells
 C1:∀ r∈l,r.C1.size≤maxLen
theorem Gj.nil {w:World} {base:Nat}:Gj w base (.slice none 0 0) []:=⟨Own.nil,fun r hr=> (by cases hr),fun r hr=> (by cases hr)⟩
theorem Gj.kept {w w':World} {base:Nat} {v:Value} {l:List Ao} {T:Nat→Prop} (h:Gj w base v l) (k:Ab T w w') (hT:∀ q,T q→q < base∨w.heap.size≤q):Gj w' base v l:=
 ⟨k.own h.own fun q hq e=> by have h1:=h.own.lt q hq;have h2:=hT q e;omega,fun r hr t ht=> ((h.ts r hr t ht).bound.kept k fun q hq e=> by have h2:=hT q e;omega).mono fun q hq=> hq.1,h.C1⟩
theorem Gj.put {wr A w2:World} {base xb eb k:Nat} {v v' u:Value} {l:List Ao} {r:Ao} (h:Gj wr base v l) (hbs:base≤wr.heap.size) (hxb:wr.heap.size≤xb) (heb:eb < base) (hA:Ab (fun q=> q=xb) wr A)
 (hr:∀ t∈ [r.val,r.key,r.cond],Nt (fun q=> wr.heap.size≤q) A 6 t.tree t.cells) (htx:r.C1.size≤maxLen) (ho:Own 15 A6 193 w2 base v' (l++ [r])) (hg:A.grownBy w2 v.ownBlock) (hat:v'.ownBlock=v.ownBlock∨v'.ownBlock=some A.heap.size):
 Gj (w2.setCell ⟨eb,k,none⟩ u) base v' (l++ [r]):=by
 have hk2:Ab (fun q=> v.ownBlock=some q) A w2:=Ab.A9 hg fun q e=> e
 have hk3:=(Ab.refl (fun q=> q=eb) w2).setCell (p:=⟨eb,k,none⟩) rfl u
 have all:∀ x:Gy,Nt (fun q=> base≤q∧v.ownBlock≠some q) A 6 x.tree x.cells→Nt (fun q=> base≤q∧v'.ownBlock≠some q) (w2.setCell ⟨eb,k,none⟩ u) 6 x.tree x.cells:=fun x hx=> by
  have h1:=(hx.bound.kept hk2 fun q hq e=> hq.1.2 e).mono (T:=fun q=> base≤q∧v'.ownBlock≠some q) fun q hq=> ⟨hq.1.1,fun e=> by
   rcases hat with e2 | e2
   ·exact hq.1.2 (e2 ▸ e)
   ·rw [e2] at e
    have h3:=Option.some.inj e
    have h4:=hq.2
    omega⟩
  exact h1.kept hk3 fun q hq e=> by have:=hq.1;omega
 refine⟨ho.setOther (fun e=> by have:=(ho.lt eb e).1;omega) u,fun x hx t ht=> all t ?_,fun x hx=> ?_⟩
 ·rcases List.mem_append.1 hx with hx | hx
  ·exact((h.kept hA fun q hq=> .inr (by omega)).ts x hx) t ht
  ·rw [List.mem_singleton.1 hx] at ht
   exact(hr t ht).mono fun q hq=> ⟨by omega,fun e=> by have:=(h.own.lt q e).2;omega⟩
 ·rcases List.mem_append.1 hx with hx | hx
  ·exact h.C1 x hx
  ·rw [List.mem_singleton.1 hx];exact htx
structure Oa (S:Nat→Prop) (w:World) (ro:Option Addr) (rs:List Ao):Prop where
 sl:Sl 15 A6 w ro rs
 bl:∀ b o,ro=some ⟨b,o,none⟩→S b∧b < w.heap.size
 ts:∀ r∈rs,∀ t∈ [r.val,r.key,r.cond],Nt S w 6 t.tree t.cells
 C1:∀ r∈rs,r.C1.size≤maxLen
theorem Oa.Y9 {S:Nat→Prop} {w:World} {ro:Option Addr} {rs:List Ao} (h:Oa S w ro rs):∀ r∈rs,Ka w 6 r:=
 fun r hr=> ⟨(h.ts r hr r.cond (by simp)).at,(h.ts r hr r.key (by simp)).at,(h.ts r hr r.val (by simp)).at,h.C1 r hr⟩
theorem Oa.kept {S T:Nat→Prop} {w w':World} {ro:Option Addr} {rs:List Ao} (h:Oa S w ro rs) (k:Ab T w w') (hT:∀ q,S q→¬ T q):Oa S w' ro rs:=
 ⟨h.sl.kept k fun b o e=> hT b (h.bl b o e).1,fun b o e=> ⟨(h.bl b o e).1,Nat.lt_of_lt_of_le (h.bl b o e).2 k.size⟩,fun r hr t ht=> (h.ts r hr t ht).kept k hT,h.C1⟩
theorem Oa.mono {S T:Nat→Prop} {w:World} {ro:Option Addr} {rs:List Ao} (h:Oa S w ro rs) (hT:∀ q,S q→T q):Oa T w ro rs:=
 ⟨h.sl,fun b o e=> ⟨hT b (h.bl b o e).1,(h.bl b o e).2⟩,fun r hr t ht=> (h.ts r hr t ht).mono hT,h.C1⟩
theorem Gj.job {w:World} {base:Nat} {ao:Option Addr} {cap:Nat} {l:List Ao} (h:Gj w base (.slice ao l.length cap) l):Oa (fun q=> base≤q) w ao l:=
 ⟨h.own.sl Rn,fun b o e=> by
  subst e
  rcases h.own.shape with ⟨h1,_⟩ | ⟨g,c,h1,_,h2,h3⟩
  ·cases h1
  ·injection h1 with h1
   cases h1
   exact⟨h2,h3⟩,fun r hr t ht=> (h.ts r hr t ht).mono fun q hq=> hq.1,h.C1⟩
theorem Ahp:(Tryz.prog.info? 193).map (fun i=> (i.zero,i.size,i.bytes))=some (some (.agg #[.bool false, .int .i64 0, .int .i64 0, .int .i64 0, .string ⟨#[]⟩, .slice none 0 0, .string ⟨#[]⟩, .int .i64 0, .int .i64 0, .string ⟨#[]⟩, .slice none 0 0, .int .i64 0, .int .i64 0, .string ⟨#[]⟩, .slice none 0 0]),15,200):=by kernel_rfl
theorem Ak0:∀ x:Ao,∀ u∈A6 x,u.oneCell'=true:=fun x u h=> by
 simp only [A6,List.mem_cons,List.not_mem_nil,or_false] at h
 rcases h with rfl | rfl | rfl | rfl | rfl | rfl | rfl | rfl | rfl | rfl | rfl | rfl | rfl | rfl | rfl <;> rfl
theorem Q9 {α:Type} {sz:Nat} {enc:α→List Value} {e:TypeId} {w:World} {base:Nat} {v:Value} {l:List α} {P:Program} {ops:Array Oper} {o:Oper} {a:Act} {K:Act→World→Prop} {Q:Exit→Act→World→Prop} {E:Prop} {bytes:Nat} (hsz:∀ x,(enc x).length=sz) (s x:Operand) (t:TypeId) (i:TypeInfo) (z:Value) (hgd:o.guard=none)
 (ho:o.op= .call {callee:= .builtin .append,args:= #[s,x],argTypes:= #[t,t]})
 (ht:P.underlying t=some (.slice e)) (hi:P.info? e=some i) (hz:i.zero=some z) (hsize:i.size=sz) (hby:i.bytes=bytes) (hzs:z.cells.size=sz) (hpos:0 < sz) (hb:bytes≤10000)
 (hown:Own sz enc e w base v l) (hB:base≤w.heap.size) (hlen:l.length+1≤1000000)
 (hs:a.eval s=v) (y:α) (ad:Addr) (c:Nat) (hx:a.eval x= .slice (some ad) 1 c)
 (hnews:∀ (j:Nat) (u:Value),(enc y)[j]?=some u→w.cell? (ad.add j)=some u) (h1:∀ u∈enc y,u.oneCell'=true)
 (h:∀ v' w',Own sz enc e w' base v' (l++ [y])→w.grownBy w' v.ownBlock→(v'.ownBlock=v.ownBlock∨v'.ownBlock=some w.heap.size)→K (a.put o.dst v') w'):
 if Region.wanted o (yielded ops a.tmps)=true then Oper.wp P o a w K Q else E:=by
 have hw:Region.wanted o (yielded ops a.tmps)=true:=by simp [Region.wanted,hgd]
 rw [if_pos hw]
 have hb2:(l.length+1) * bytes≤1000000 * 10000:=Nat.mul_le_mul hlen hb
 obtain⟨v',w',hr,h2,h3,_,h5⟩:=run_append_own_at (P:=P) w base t o.type e i z sz bytes ht hi hz hsize hby hzs hpos v l.length _ hown.2 ad 1 c (enc y) (by rw [hsz];omega) hnews h1 (by unfold maxLen;omega) (by omega) hB
 unfold Oper.wp execOp
 simp only [ho,resolve,invoke,builtin,Sem.run_bind,Sem.run_pure,Result.andThen_ok,List.map_toArray,List.map_cons,List.map_nil,hs,hx,hr]
 exact h v' w' (Own.grown (l2:= [y]) (by simpa using h2)) h3 h5
theorem Ab.new {S T:Nat→Prop} {w w' w'':World} (h:Ab S w w') (k:Ab T w' w'') (hT:∀ q,T q→w.heap.size≤q):Ab S w w'':=
 ⟨k.os.trans h.os,k.tape.trans h.tape,k.output.trans h.output,Nat.le_trans h.size k.size,fun i hi hS=> (k.block i (Nat.lt_of_lt_of_le hi h.size) fun e=> by have:=hT i e;omega).trans (h.block i hi hS)⟩
theorem Z1 (c:UInt8) (s:List UInt8) (w:World) (hg:GM w) (hs:s.length≤1000000):
 Calls Tryz.prog 58 #[.string (tx s), .string ⟨#[c]⟩] w fun e w'=> e= .returned (.slice (some ⟨w.heap.size,0,none⟩) (splitAt c s).length (splitAt c s).length)∧Sl 1 Cm w' (some ⟨w.heap.size,0,none⟩) ((splitAt c s).map tx)∧w.heap.size < w'.heap.size∧Below w.heap.size w w':=by
 have h:=Qf c (tx s) w hg (by rw [Am];exact hs)
 rw [Ap,List.length_map] at h
 refine h.mono ?_
 rintro e w' ⟨rfl,rfl⟩
 exact⟨rfl,Sl.lit Cc (B3 _ _) (T3 _).symm,by simp,(Below.refl _ _).alloc (Nat.le_refl _) _⟩
theorem Sl.Aoa {w:World} {b:Nat} {x:ByteArray} {l:List ByteArray} (h:Sl 1 Cm w (some ⟨b,0,none⟩) (x::l)):Sl 1 Cm w (some ⟨b,1,none⟩) l:=by
 have:=h.An6 1
 simpa using this
def Af7:Value:= .agg #[.slice none 0 0, .int .i64 0, .bool false, .int .i64 0]
def An4 (s:List UInt8) (w:World) (e:Ending) (w':World):Prop:=
 ((∃ ro rc rs fold slices early,(Dv (rs.map Ao.v) fold slices=0∧s=Ke (rs.map Ao.v) fold slices early∧s.length≤800)∧e= .returned (.tuple #[.agg #[.slice ro rs.length rc, .int .i64 fold, .bool early, .int .i64 slices], .nilIface])∧Oa (fun q=> w.heap.size≤q) w' ro rs)∨
   ((∀ rv fold slices early,Dv rv fold slices=0→s=Ke rv fold slices early→800 < s.length)∧e= .returned (.tuple #[Af7,Du (if 800 < s.length then 2 else 4)])))∧Below w.heap.size w w'
set_option maxRecDepth 100000 in
set_option maxHeartbeats 8000000 in
theorem Ye (s:List UInt8) (w:World) (hg:GW w) (hs:s.length≤100000):
 Calls Tryz.prog 65 #[.string (tx s)] w (An4 s w):=by
 have HG:=Aa hg
 obtain⟨W1,hW1⟩:∃ W,W=w.alloc (.cells #[.slice none 0 0, .int .i64 0, .bool false, .int .i64 0] 96):=⟨_,rfl⟩
 have hb1:Below w.heap.size w W1:=by rw [hW1];exact(Below.refl _ _).alloc (Nat.le_refl _) _
 have hz1:Bk W1 w.heap.size [.slice none 0 0, .int .i64 0, .bool false, .int .i64 0]:=by rw [hW1];exact Bk.new rfl
 have HW1:=Aa hW1
 have HB:=Aa hb1
 have HZ:=Aa hz1
 have hsz:(tx s).size=s.length:=Am s
 clear hg hb1 hz1 hW1
 by_cases h8:800 < (tx s).size
 ·have c0:=HZ.out.get (j:=0) rfl
  have c1:=HZ.out.get (j:=1) rfl
  have c2:=HZ.out.get (j:=2) rfl
  have c3:=HZ.out.get (j:=3) rfl
  have z0:=HZ.out.fz 0
  have z1:=HZ.out.fz 1
  have z2:=HZ.out.fz 2
  have z3:=HZ.out.fz 3
  have hk9:=HZ.out.Ou (.slice none 0 0) (.int .i64 0) (.bool false) (.int .i64 0)
  have f0:=hk9.get (j:=0) rfl
  have f1:=hk9.get (j:=1) rfl
  have f2:=hk9.get (j:=2) rfl
  have f3:=hk9.get (j:=3) rfl
  have HBF:Hid (Below w.heap.size w ((((W1.setCell ⟨w.heap.size,0,none⟩ (.slice none 0 0)).setCell ⟨w.heap.size,1,none⟩ (.int .i64 0)).setCell ⟨w.heap.size,2,none⟩ (.bool false)).setCell ⟨w.heap.size,3,none⟩ (.int .i64 0))):=
   (((HB.out.setCell (p:=⟨w.heap.size,0,none⟩) (Nat.le_refl _) _).setCell (p:=⟨w.heap.size,1,none⟩) (Nat.le_refl _) _).setCell (p:=⟨w.heap.size,2,none⟩) (Nat.le_refl _) _).setCell (p:=⟨w.heap.size,3,none⟩) (Nat.le_refl _) _
  have HL:Hid (800 < s.length):=by show _ < _;omega
  clear hk9 hsz hs
  go_enter Tryz.func65,Tryz.ntmps65
  go_upto_region 1 with (fail)
  rw [←HW1.out]
  clear HW1
  go_wp2
  refine bodyPost_ret (v:= .tuple #[.agg #[.slice none 0 0, .int .i64 0, .bool false, .int .i64 0],Du 2]) (by simp [results,Tryz.results65,go_sem,f0,f1,f2,f3,Du]) rfl ?_
  exact⟨.inr ⟨fun _ _ _ _ _ _=> HL.out,by rw [if_pos HL.out];rfl⟩,HBF.out⟩
 ·have hs8:s.length≤800:=by omega
  have HT:Hid (∀ w',Calls Tryz.prog 59 #[.string (tx s), .string ⟨#[10]⟩] w' fun e w''=> e= .returned (.string (tx (Et s)))∧w''=w'):=fun w'=> by
   have h:=Tryz.strings_TrimSuffix (tx s) ⟨#[10]⟩ w' (by omega)
   have e10:(⟨#[10]⟩:ByteArray).data.toList= [10]:=rfl
   rw [Ap,e10,X7] at h
   exact h
  have htl:(Et s).length≤800:=by unfold Et;split <;> (try simp) <;> omega
  have HGB:=Aa fun w' (hb:Below w.heap.size w w')=> HG.out.later hb (Nat.le_refl _)
  have HSP:=Aa (Z1 10 (Et s) W1 (HGB.out _ HB.out).gm (by omega))
  obtain⟨LS,hLS⟩:∃ LS,splitAt 10 (Et s)=LS:=⟨_,rfl⟩
  have HLN:Hid (C5 s=LS):=hLS
  have hll:∀ x∈LS,x.length≤800:=fun x hx=> by
   rw [←hLS] at hx
   exact Nat.le_trans (Pw 10 _ _ (Nat.le_refl _) x hx) htl
  have hln:LS.length≤801:=by rw [←hLS];have:=J4 10 (Et s);omega
  rw [hLS] at HSP
  obtain⟨L0,LT,hLT⟩:∃ L0 LT,LS=L0::LT:=by
   cases h:LS with
   | nil=> exact absurd (hLS.trans h) (Ov _ _)
   | cons a l=> exact⟨a,l,rfl⟩
  subst hLT
  have HLL:=Aa hll
  have hl0:L0.length≤800:=hll L0 (by simp)
  have hlt8:LT.length≤800:=by simp at hln;omega
  obtain⟨ws,hws,hjw⟩:=Ahu L0
  have HWS:=Aa hws
  have HJW:=Aa hjw
  have hwl:ws.length≤801:=by have h1:=J4 32 L0;rw [hws] at h1;simp at h1;omega
  clear hLS hll hln hws hjw hs hsz h8
  go_enter Tryz.func65,Tryz.ntmps65
  go_upto_region 1 with (fail)
  rw [←HW1.out]
  clear HW1
  have hs8':decide (800 < ((tx s).size:Int))=false:=by rw [Am];simp;omega
  go_wp2_with fail
  refine(HT.out _).mono ?_
  rintro e w2 ⟨rfl,rfl⟩
  clear HT
  go_wp2_with fail
  refine HSP.out.mono ?_
  rintro e w3 ⟨rfl,hsl3,hz3,b3⟩
  rw [List.length_cons]
  have HLS:=Aa hsl3
  have HB3:=Aa (HB.out.trans (b3.mono HB.out.size))
  have HZ3:=Aa (HZ.out.later b3)
  have HG1:Hid (w.heap.size < w2.heap.size∧w2.heap.size < w3.heap.size):=⟨HZ.out.lt,hz3⟩
  obtain⟨lb,hlb⟩:∃ lb,w2.heap.size=lb:=⟨_,rfl⟩
  rw [hlb] at HLS HG1 ⊢
  have c0:w3.cell? ⟨lb,0,none⟩=some (.string (tx L0)):=by
   obtain⟨b,off,x,e1,_,hx,hc⟩:=HLS.out.str (k:=0) (by simp)
   cases e1
   cases hx
   simpa using hc
  have HS2:=Aa (Z1 32 L0 w3 (HGB.out _ HB3.out).gm (by omega))
  rw [HWS.out,List.length_cons] at HS2
  clear hsl3 hz3 b3 HSP HB HZ hlb
  have g0:(0:Int) < (LT.length:Int)+1:=by omega
  go_wp2_with fail
  refine HS2.out.mono ?_
  rintro e w4 ⟨rfl,hsl4,hz4,b4⟩
  have HWL:=Aa hsl4
  have HB4:=Aa (HB3.out.trans (b4.mono HB3.out.size))
  have HZ4:=Aa (HZ3.out.later b4)
  have HLS4:=Aa (HLS.out.later b4 (Nat.le_refl _))
  have HG2:Hid (w.heap.size < lb∧lb < w3.heap.size∧w3.heap.size < w4.heap.size):=⟨HG1.out.1,HG1.out.2,hz4⟩
  obtain⟨wb,hwb⟩:∃ wb,w3.heap.size=wb:=⟨_,rfl⟩
  rw [hwb] at HWL HG2 ⊢
  have d0:w4.cell? ⟨wb,0,none⟩=some (.string (tx (Ax L0).1)):=by
   obtain⟨b,off,x,e1,_,hx,hc⟩:=HWL.out.str (k:=0) (by simp)
   cases e1
   cases hx
   simpa using hc
  clear hsl4 hz4 b4 HS2 HB3 HZ3 HLS c0 hwb HG1
  have g1:(0:Int) < (ws.length:Int)+1:=by omega
  have HIX:=Aa fun(w':World) (g:Nat) (hf:∀ (j:Nat) x,Ln[j]?=some x→w'.cell? ⟨g,j,none⟩=some (.string x)) (hg:g < w'.heap.size)=> Acw (some ⟨g,0,none⟩) 5 Ln (tx (Ax L0).1) w' (by decide) (fun _=> ⟨g,0,rfl,hg,fun i x j v hi hj=> by
   cases j with
   | zero=>
     have:v= .string x:=by simpa [Cm] using hj.symm
     subst this
     have:=hf i x hi
     simpa using this
   | succ j=> simp [Cm] at hj⟩)
  have HFN:=Aa fun r (h:We Ln (tx (Ax L0).1) r)=> Ahd h
  obtain⟨w0,hw0⟩:∃ w0,(Ax L0).1=w0:=⟨_,rfl⟩
  have HW0:=Aa hw0
  rw [hw0] at HIX HFN d0 HWL
  clear hw0
  go_upto_region 5 with (fail)
  go_cut [6] from 25 to 31 (fun jv wc=> ∃ jb,jv= .pointer (some ⟨jb,0,none⟩)∧Hid (Bk wc jb [.slice none 0 0, .int .i64 (He w0), .bool false, .int .i64 0])∧Hid (Below w4.heap.size w4 wc)∧Hid (w4.heap.size≤jb))
  case first=>
   have HJN:=Aa fun(w':World) (_:Below w4.heap.size w4 w')=> (show Bk (w'.alloc (.cells #[.slice none 0 0, .int .i64 0, .bool false, .int .i64 0] 96)) w'.heap.size [.slice none 0 0, .int .i64 0, .bool false, .int .i64 0] from Bk.new rfl)
   have HJ0:Hid (Bk ((w4.alloc (.cells #[.slice none 0 0, .int .i64 0, .bool false, .int .i64 0] 96)).drew) w4.heap.size [.slice none 0 0, .int .i64 0, .bool false, .int .i64 0]):=show Bk (w4.alloc (.cells #[.slice none 0 0, .int .i64 0, .bool false, .int .i64 0] 96)) w4.heap.size _ from Bk.new rfl
   have HZ40:Hid (((w4.alloc (.cells #[.slice none 0 0, .int .i64 0, .bool false, .int .i64 0] 96)).drew).heap.size=w4.heap.size+1):=by show(w4.alloc _).heap.size=_;simp
   have HNEW:Hid (∀ w':World,Hid (Bk (w'.alloc (.cells #[.slice none 0 0, .int .i64 (He w0), .bool false, .int .i64 0] 96)) w'.heap.size [.slice none 0 0, .int .i64 (He w0), .bool false, .int .i64 0])):=fun w'=> Bk.new rfl
   refine wp_region_noPanic ?_
   refine Al (S:=(fun w'=> Below w4.heap.size w4 w')) (E:= [8]) (by kernel_rfl) ?_ (fun hHeld=> ?_)
   ·(first | exact(Below.refl _ _).drew | exact hHeld.trans (b3.mono hHeld.size) | exact hHeld.trans (b2.mono hHeld.size) | exact hHeld.alloc hHeld.size _ | exact hHeld)
   try dsimp only [List.size_toArray,List.length_cons,List.length_nil,Nat.reduceAdd]
   refine hP 1 (v:=?_) rfl (by kernel_rfl) (by rfl) ?_ ?_
   rotate_left
   focus (intro w;go_simp;try with_reducible rfl)
   refine hP 2 (v:=?_) rfl (by kernel_rfl) (by rfl) ?_ ?_
   rotate_left
   focus (intro w;go_simp;try with_reducible rfl)
   refine hT 3 [[3]] (v:=?_) rfl (by kernel_rfl) (by rfl) (by assumption) ?_ ?_
   rotate_left
   focus (intro w hSw;(try dsimp only at hSw);(have t0:=cell_later hSw d0);go_simp;try with_reducible rfl)
   try simp only [Act.put,List.setIfInBounds_toArray,List.set_cons_zero,List.set_cons_succ]
   refine hR [0,7] (by kernel_rfl) (by simp) (Ac.cons rfl (fun KH hKH=> ?_) (Ac.cons rfl (fun KH hKH=> ?_) .nil))
   ·go_simp
    (go_at_call 101;refine(Qo _).mono ?_;rintro e w2 ⟨rfl,hf2,hz2,b2⟩;try replace hj:=hj.later b2)
    try (rw [HZ40.out] at hf2 hz2)
    try go_wp2_with fail
    refine hKH.out _ _ ?_ (fun hNew=> ?_)
    ·(first | exact(Below.refl _ _).drew | exact hHeld.trans (b3.mono hHeld.size) | exact hHeld.trans (b2.mono hHeld.size) | exact hHeld.alloc hHeld.size _ | exact hHeld)
    clear hKH KH hHeld
    have hHeld:=hNew
    clear hNew
    refine hR [4,7] (by kernel_rfl) (by simp) (Ac.cons rfl (fun KH hKH=> ?_) (Ac.cons rfl (fun KH hKH=> ?_) .nil))
    ·go_simp
     (go_at_call 100;(first | refine(HIX.out _ w4.heap.size hf2 hz2).mono ?_ | refine(HIX.out _ _ hf2 hz2).mono ?_);unfold Sz;rintro e w3 ⟨⟨r,rfl,hr⟩,b3⟩;have hfn:=(HFN.out r hr).1;have hfn2:=(HFN.out r hr).2;try replace hj:=hj.later b3)
     try go_wp2_with fail
     refine hKH.out _ _ ?_ (fun hNew=> ?_)
     ·(first | exact(Below.refl _ _).drew | exact hHeld.trans (b3.mono hHeld.size) | exact hHeld.trans (b2.mono hHeld.size) | exact hHeld.alloc hHeld.size _ | exact hHeld)
     clear hKH KH hHeld
     have hHeld:=hNew
     clear hNew
     try simp only [Act.put,List.setIfInBounds_toArray,List.set_cons_zero,List.set_cons_succ]
     refine hP 5 (v:=?_) rfl (by kernel_rfl) (by rfl) ?_ ?_
     rotate_left
     focus (intro w;go_simp;try with_reducible rfl)
     refine hP 6 (v:=?_) rfl (by kernel_rfl) (by rfl) ?_ ?_
     rotate_left
     focus (intro w;go_simp;try with_reducible rfl)
     try simp only [Act.put,List.setIfInBounds_toArray,List.set_cons_zero,List.set_cons_succ]
     refine hR [7] (by kernel_rfl) (by simp) (Ac.cons rfl (fun KH hKH=> ?_) .nil)
     go_simp
     first | (have hx5:Below w4.heap.size w4 w4.drew:=hHeld;have hj:=HJ0.out;have hlo:=Nat.le_refl w4.heap.size) | (have hj:=HJN.out _ hHeld;have hlo:=hHeld.size;have HBA:=Aa hHeld)
     try replace hf2:=fun j x h=> cell_later ((Below.refl _ _).alloc (Nat.le_refl _) (.cells #[.slice none 0 0, .int .i64 0, .bool false, .int .i64 0] 96)) (hf2 j x h)
     try replace hz2:=Nat.lt_of_lt_of_le hz2 ((Below.refl _ _).alloc (Nat.le_refl _) (.cells #[.slice none 0 0, .int .i64 0, .bool false, .int .i64 0] 96)).size
     refine hKH.out _ _ ?_ (fun hNew=> ?_)
     ·(first | exact(Below.refl _ _).drew | exact hHeld.trans (b3.mono hHeld.size) | exact hHeld.trans (b2.mono hHeld.size) | exact hHeld.alloc hHeld.size _ | exact hHeld)
     clear hKH KH hHeld
     have hHeld:=hNew
     clear hNew
     try simp only [Act.put,List.setIfInBounds_toArray,List.set_cons_zero,List.set_cons_succ]
     refine hR [8] (by kernel_rfl) (by simp) (Ac.Bb rfl (by kernel_rfl) (fun KH hKH=> ?_) .nil)
     have HBX:=Aa hHeld
     have q0:=hj.get (j:=0) rfl
     have q1:=hj.get (j:=1) rfl
     have q2:=hj.get (j:=2) rfl
     have q3:=hj.get (j:=3) rfl
     have y0:=hj.fz 0
     have y1:=hj.fz 1
     have y2:=hj.fz 2
     have y3:=hj.fz 3
     go_simp
     refine hKH.out _ _ ?_
     clear hKH KH
     try clear hHeld
     refine Ak (by kernel_rfl) ?_ _
     refine NoPanic.normal ?_
     go_wp2
     go_meet
     first | (with_reducible exact⟨_,rfl,HNEW.out _,Aa (HBA.out.alloc HBA.out.size _),Aa hlo⟩) | exact⟨_,rfl,hj.Ou _ _ _ _,(((HBX.out.setCell (p:=⟨_,0,none⟩) hlo _).setCell (p:=⟨_,1,none⟩) hlo _).setCell (p:=⟨_,2,none⟩) hlo _).setCell (p:=⟨_,3,none⟩) hlo _,hlo⟩
    ·go_simp
     first | (have hx5:Below w4.heap.size w4 w4.drew:=hHeld;have hj:=HJ0.out;have hlo:=Nat.le_refl w4.heap.size) | (have hj:=HJN.out _ hHeld;have hlo:=hHeld.size;have HBA:=Aa hHeld)
     try replace hf2:=fun j x h=> cell_later ((Below.refl _ _).alloc (Nat.le_refl _) (.cells #[.slice none 0 0, .int .i64 0, .bool false, .int .i64 0] 96)) (hf2 j x h)
     try replace hz2:=Nat.lt_of_lt_of_le hz2 ((Below.refl _ _).alloc (Nat.le_refl _) (.cells #[.slice none 0 0, .int .i64 0, .bool false, .int .i64 0] 96)).size
     refine hKH.out _ _ ?_ (fun hNew=> ?_)
     ·(first | exact(Below.refl _ _).drew | exact hHeld.trans (b3.mono hHeld.size) | exact hHeld.trans (b2.mono hHeld.size) | exact hHeld.alloc hHeld.size _ | exact hHeld)
     clear hKH KH hHeld
     have hHeld:=hNew
     clear hNew
     try simp only [Act.put,List.setIfInBounds_toArray,List.set_cons_zero,List.set_cons_succ]
     refine hR [4] (by kernel_rfl) (by simp) (Ac.cons rfl (fun KH hKH=> ?_) .nil)
     go_simp
     (go_at_call 100;(first | refine(HIX.out _ w4.heap.size hf2 hz2).mono ?_ | refine(HIX.out _ _ hf2 hz2).mono ?_);unfold Sz;rintro e w3 ⟨⟨r,rfl,hr⟩,b3⟩;have hfn:=(HFN.out r hr).1;have hfn2:=(HFN.out r hr).2;try replace hj:=hj.later b3)
     try go_wp2_with fail
     refine hKH.out _ _ ?_ (fun hNew=> ?_)
     ·(first | exact(Below.refl _ _).drew | exact hHeld.trans (b3.mono hHeld.size) | exact hHeld.trans (b2.mono hHeld.size) | exact hHeld.alloc hHeld.size _ | exact hHeld)
     clear hKH KH hHeld
     have hHeld:=hNew
     clear hNew
     try simp only [Act.put,List.setIfInBounds_toArray,List.set_cons_zero,List.set_cons_succ]
     refine hP 5 (v:=?_) rfl (by kernel_rfl) (by rfl) ?_ ?_
     rotate_left
     focus (intro w;go_simp;try with_reducible rfl)
     refine hP 6 (v:=?_) rfl (by kernel_rfl) (by rfl) ?_ ?_
     rotate_left
     focus (intro w;go_simp;try with_reducible rfl)
     try simp only [Act.put,List.setIfInBounds_toArray,List.set_cons_zero,List.set_cons_succ]
     refine hR [8] (by kernel_rfl) (by simp) (Ac.Bb rfl (by kernel_rfl) (fun KH hKH=> ?_) .nil)
     have HBX:=Aa hHeld
     have q0:=hj.get (j:=0) rfl
     have q1:=hj.get (j:=1) rfl
     have q2:=hj.get (j:=2) rfl
     have q3:=hj.get (j:=3) rfl
     have y0:=hj.fz 0
     have y1:=hj.fz 1
     have y2:=hj.fz 2
     have y3:=hj.fz 3
     go_simp
     refine hKH.out _ _ ?_
     clear hKH KH
     try clear hHeld
     refine Ak (by kernel_rfl) ?_ _
     refine NoPanic.normal ?_
     go_wp2
     go_meet
     first | (with_reducible exact⟨_,rfl,HNEW.out _,Aa (HBA.out.alloc HBA.out.size _),Aa hlo⟩) | exact⟨_,rfl,hj.Ou _ _ _ _,(((HBX.out.setCell (p:=⟨_,0,none⟩) hlo _).setCell (p:=⟨_,1,none⟩) hlo _).setCell (p:=⟨_,2,none⟩) hlo _).setCell (p:=⟨_,3,none⟩) hlo _,hlo⟩
   ·go_simp
    first | (have hx5:Below w4.heap.size w4 w4.drew:=hHeld;have hj:=HJ0.out;have hlo:=Nat.le_refl w4.heap.size) | (have hj:=HJN.out _ hHeld;have hlo:=hHeld.size;have HBA:=Aa hHeld)
    try replace hf2:=fun j x h=> cell_later ((Below.refl _ _).alloc (Nat.le_refl _) (.cells #[.slice none 0 0, .int .i64 0, .bool false, .int .i64 0] 96)) (hf2 j x h)
    try replace hz2:=Nat.lt_of_lt_of_le hz2 ((Below.refl _ _).alloc (Nat.le_refl _) (.cells #[.slice none 0 0, .int .i64 0, .bool false, .int .i64 0] 96)).size
    refine hKH.out _ _ ?_ (fun hNew=> ?_)
    ·(first | exact(Below.refl _ _).drew | exact hHeld.trans (b3.mono hHeld.size) | exact hHeld.trans (b2.mono hHeld.size) | exact hHeld.alloc hHeld.size _ | exact hHeld)
    clear hKH KH hHeld
    have hHeld:=hNew
    clear hNew
    try simp only [Act.put,List.setIfInBounds_toArray,List.set_cons_zero,List.set_cons_succ]
    refine hR [0] (by kernel_rfl) (by simp) (Ac.cons rfl (fun KH hKH=> ?_) .nil)
    go_simp
    (go_at_call 101;refine(Qo _).mono ?_;rintro e w2 ⟨rfl,hf2,hz2,b2⟩;try replace hj:=hj.later b2)
    try (rw [HZ40.out] at hf2 hz2)
    try go_wp2_with fail
    refine hKH.out _ _ ?_ (fun hNew=> ?_)
    ·(first | exact(Below.refl _ _).drew | exact hHeld.trans (b3.mono hHeld.size) | exact hHeld.trans (b2.mono hHeld.size) | exact hHeld.alloc hHeld.size _ | exact hHeld)
    clear hKH KH hHeld
    have hHeld:=hNew
    clear hNew
    try simp only [Act.put,List.setIfInBounds_toArray,List.set_cons_zero,List.set_cons_succ]
    refine hR [4] (by kernel_rfl) (by simp) (Ac.cons rfl (fun KH hKH=> ?_) .nil)
    go_simp
    (go_at_call 100;(first | refine(HIX.out _ w4.heap.size hf2 hz2).mono ?_ | refine(HIX.out _ _ hf2 hz2).mono ?_);unfold Sz;rintro e w3 ⟨⟨r,rfl,hr⟩,b3⟩;have hfn:=(HFN.out r hr).1;have hfn2:=(HFN.out r hr).2;try replace hj:=hj.later b3)
    try go_wp2_with fail
    refine hKH.out _ _ ?_ (fun hNew=> ?_)
    ·(first | exact(Below.refl _ _).drew | exact hHeld.trans (b3.mono hHeld.size) | exact hHeld.trans (b2.mono hHeld.size) | exact hHeld.alloc hHeld.size _ | exact hHeld)
    clear hKH KH hHeld
    have hHeld:=hNew
    clear hNew
    try simp only [Act.put,List.setIfInBounds_toArray,List.set_cons_zero,List.set_cons_succ]
    refine hP 5 (v:=?_) rfl (by kernel_rfl) (by rfl) ?_ ?_
    rotate_left
    focus (intro w;go_simp;try with_reducible rfl)
    refine hP 6 (v:=?_) rfl (by kernel_rfl) (by rfl) ?_ ?_
    rotate_left
    focus (intro w;go_simp;try with_reducible rfl)
    try simp only [Act.put,List.setIfInBounds_toArray,List.set_cons_zero,List.set_cons_succ]
    refine hR [8] (by kernel_rfl) (by simp) (Ac.Bb rfl (by kernel_rfl) (fun KH hKH=> ?_) .nil)
    have HBX:=Aa hHeld
    have q0:=hj.get (j:=0) rfl
    have q1:=hj.get (j:=1) rfl
    have q2:=hj.get (j:=2) rfl
    have q3:=hj.get (j:=3) rfl
    have y0:=hj.fz 0
    have y1:=hj.fz 1
    have y2:=hj.fz 2
    have y3:=hj.fz 3
    go_simp
    refine hKH.out _ _ ?_
    clear hKH KH
    try clear hHeld
    refine Ak (by kernel_rfl) ?_ _
    refine NoPanic.normal ?_
    go_wp2
    go_meet
    first | (with_reducible exact⟨_,rfl,HNEW.out _,Aa (HBA.out.alloc HBA.out.size _),Aa hlo⟩) | exact⟨_,rfl,hj.Ou _ _ _ _,(((HBX.out.setCell (p:=⟨_,0,none⟩) hlo _).setCell (p:=⟨_,1,none⟩) hlo _).setCell (p:=⟨_,2,none⟩) hlo _).setCell (p:=⟨_,3,none⟩) hlo _,hlo⟩
  case rest=>
  obtain⟨jb,rfl,HJ,HBC,HJL⟩:=hcut
  have HB5:=Aa (HB4.out.trans (HBC.out.mono HB4.out.size))
  have HLS5:=Aa (HLS4.out.later HBC.out (Nat.le_refl _))
  have HWL5:=Aa (HWL.out.later HBC.out (Nat.le_refl _))
  have HZ5:=Aa (HZ4.out.later HBC.out)
  clear HIX HFN HB4 HLS4 HWL HZ4 d0
  have hrl:(Ax L0).2.length≤800:=by have:=(I3 L0).2;omega
  go_upto_region 6 with (fail)
  go_cut [7] from 32 to 36 (fun rv wd=> ∃ rb,rv= .pointer (some ⟨rb,0,none⟩)∧Hid (Rd wd rb (Ax L0).2 false)∧Hid (Below wc.heap.size wc wd)∧Hid (wc.heap.size≤rb))
  case first=>
   have HBX:Hid (∀ (w':World) (o:Obj),Below wc.heap.size wc w'→Below wc.heap.size wc (w'.alloc o)):=fun w' o h=> h.alloc h.size o
   cases ws with
   | nil=>
     have HJ0:=Aa (Wg (some ⟨wb,0,none⟩) 0 [] wc (by rw [HJW.out];omega) (by simp) (by simp) Sl.nil)
     rw [HJW.out] at HJ0
     have g2:(([]:List (List UInt8)).length:Int)=0:=rfl
     go_wp2_with fail
     refine HJ0.out.mono ?_
     rintro e w6 ⟨rfl,b6⟩
     have HB6:=Aa b6
     clear b6 HJ0
     go_wp2
     go_meet
     exact⟨_,rfl,Bk.new rfl,HBX.out _ _ HB6.out,HB6.out.size⟩
   | cons x ws=>
     have HJ0:=Aa (Wg (some ⟨wb,1,none⟩) (x::ws).length (x::ws) wc (by rw [HJW.out];omega) (by omega) (Nat.le_refl _) HWL5.out.Aoa)
     rw [HJW.out,List.length_cons] at HJ0
     have g2:(0:Int)≤1∧(1:Int)≤(((x::ws).length:Nat):Int)+1:=by omega
     obtain⟨g2,g3⟩:=g2
     have g4:¬ (x::ws).length+1=1:=by simp
     go_wp2_with fail
     refine HJ0.out.mono ?_
     rintro e w6 ⟨rfl,b6⟩
     have HB6:=Aa b6
     clear b6 HJ0
     go_wp2
     go_meet
     exact⟨_,rfl,Bk.new rfl,HBX.out _ _ HB6.out,HB6.out.size⟩
  case rest=>
  obtain⟨rb,rfl,HR,HBD,HRL⟩:=hcut
  have HJD:=Aa (HJ.out.later HBD.out)
  have HZD:=Aa (HZ5.out.later HBD.out)
  have HLD:=Aa (HLS5.out.later HBD.out (Nat.le_refl _))
  have HBE:=Aa (HB5.out.trans (HBD.out.mono HB5.out.size))
  have HNE:Hid ((w.heap.size < lb∧w.heap.size < jb∧w.heap.size < rb)∧jb≠rb∧lb≠rb∧lb≠jb):=by
   have h1:=HG2.out
   have h2:=HJL.out
   have h3:=HRL.out
   have h4:=HJ.out.lt
   show _∧_
   omega
  have HRLT:Hid (rb < wc.heap.size):=Bk.lt HR.out
  clear HJ HZ5 HLS5 HB5 HBD HWL5 HBC HJL HRL HG2
  generalize hR0:(Ax L0).2=R0 at *
  have HR0:=Aa hR0
  clear hR0
  have HKB:Hid (∀ w',Ab (fun q=> q=rb) wc w'→Below w.heap.size wc w'):=fun w' k=> k.below (fun q hq=> by have:=HNE.out.1;omega) HBE.out.size
  have HNU:=Aa (J2 rb R0 false wc (HGB.out _ HBE.out) (fun w' k=> HGB.out _ (HBE.out.trans (HKB.out w' k))) HR.out (by omega))
  rw [Bool.false_or] at HNU
  have hrl2:=(I3 R0).2
  generalize hR1:(Ax R0).2=R1 at *
  generalize hNB:(!Dg (Ax R0).1)=nb at *
  generalize hSV:Ci (Ax R0).1=sv at *
  have HR1:=Aa hR1
  have HNB:=Aa hNB
  have HSV:=Aa hSV
  clear hR1 hNB hSV
  go_wp2_with fail
  refine HNU.out.mono ?_
  rintro e w7 ⟨⟨rfl,hr7⟩,k7⟩
  have HJ7:=Aa (HJD.out.kept k7 HNE.out.2.1)
  have HZ7:=Aa (HZD.out.kept k7 (by have:=HNE.out.1;omega))
  have HL7:=Aa (HLD.out.kept k7 fun b o e1=> by cases e1;exact HNE.out.2.2.1)
  have HB7:=Aa (HBE.out.trans (HKB.out _ k7))
  have HR7:=Aa hr7
  have HS7:Hid (wc.heap.size≤w7.heap.size):=k7.size
  have q3:=HJ7.out.get (j:=3) rfl
  have y3:=HJ7.out.fz 3
  clear hr7 k7 HNU HJD HZD HLD HBE HKB HR
  go_upto_region 8 with (fail)
  have HJ8:=Aa (HJ7.out.set (k:=3) (.int .i64 sv) rfl)
  have HZ8:=Aa (HZ7.out.Gx (p:=⟨jb,3,none⟩) (by have:=HNE.out.1;simp;omega) (.int .i64 sv))
  have HR8:=Aa (Bk.Gx HR7.out (p:=⟨jb,3,none⟩) HNE.out.2.1 (.int .i64 sv))
  have HL8:=Aa (HL7.out.kept ((Ab.refl (fun q=> q=jb) w7).setCell (p:=⟨jb,3,none⟩) rfl (.int .i64 sv)) fun b o e1=> by cases e1;exact HNE.out.2.2.2)
  have HB8:=Aa (HB7.out.setCell (p:=⟨jb,3,none⟩) (by have:=HNE.out.1;simp;omega) (.int .i64 sv))
  have HS8:Hid (wc.heap.size≤(w7.setCell ⟨jb,3,none⟩ (.int .i64 sv)).heap.size):=by have:=HS7.out;show _≤_;simp [World.setCell];omega
  clear HJ7 HZ7 HR7 HL7 HB7 HS7 q3 y3
  generalize w7.setCell ⟨jb,3,none⟩ (.int .i64 sv)=w8 at *
  have q2:=HJ8.out.get (j:=2) rfl
  have y2:=HJ8.out.fz 2
  have r0:=Rd.s HR8.out
  obtain⟨eb,heb⟩:∃ eb,decide (R1=Tw)=eb:=⟨_,rfl⟩
  have m1:((tx R1).toList == [101,97,114,108,121])=eb:=by
   rw [tl,Ap,←heb]
   by_cases h:R1=Tw
   ·rw [decide_eq_true h,h];rfl
   ·rw [decide_eq_false h,beq_eq_false_iff_ne];exact h
  have HEB:=Aa heb
  clear heb
  go_upto_region 9 with (fail)
  have HJ9:=Aa (HJ8.out.set (k:=2) (.bool eb) rfl)
  have HZ9:=Aa (HZ8.out.Gx (p:=⟨jb,2,none⟩) (by have:=HNE.out.1;simp;omega) (.bool eb))
  have HR9:=Aa (Bk.Gx HR8.out (p:=⟨jb,2,none⟩) HNE.out.2.1 (.bool eb))
  have HL9:=Aa (HL8.out.kept ((Ab.refl (fun q=> q=jb) w8).setCell (p:=⟨jb,2,none⟩) rfl (.bool eb)) fun b o e1=> by cases e1;exact HNE.out.2.2.2)
  have HB9:=Aa (HB8.out.setCell (p:=⟨jb,2,none⟩) (by have:=HNE.out.1;simp;omega) (.bool eb))
  have HS9:Hid (wc.heap.size≤(w8.setCell ⟨jb,2,none⟩ (.bool eb)).heap.size):=by have:=HS8.out;show _≤_;simp [World.setCell];omega
  clear HJ8 HZ8 HR8 HL8 HB8 HS8 q2 y2 r0 m1
  generalize w8.setCell ⟨jb,2,none⟩ (.bool eb)=W9 at *
  have HLW:Hid (jb < W9.heap.size∧rb < W9.heap.size∧lb < W9.heap.size):=⟨HJ9.out.lt,Bk.lt HR9.out,by obtain⟨b,o,e1,h1,_⟩:=HL9.out (by simp);cases e1;exact h1⟩
  go_cut [47,48,49] from 46 to 49 (fun v47 v48 v49 wd=> ∃ off cap,v47= .slice (some ⟨lb,off,none⟩) LT.length cap∧v48= .int .i64 (LT.length:Nat)∧v49= .int .i64 0∧wd=W9∧Hid (Sl 1 Cm W9 (some ⟨lb,off,none⟩) (LT.map tx)))
  case first=>
   cases LT with
   | nil=>
     have g2:(([]:List (List UInt8)).length:Int)=0:=rfl
     go_wp2
     go_meet
     exact⟨0,0,rfl,rfl,rfl,rfl,Sl.nil⟩
   | cons x l=>
     have HSL:=Aa HL9.out.Aoa
     have g2:(0:Int)≤1∧(1:Int)≤(((x::l).length:Nat):Int)+1:=by omega
     obtain⟨g2,g3⟩:=g2
     have g4:¬ (x::l).length+1=1:=by simp
     go_wp2
     go_meet
     exact⟨1,_,rfl,rfl,rfl,rfl,HSL⟩
  case rest=>
  obtain⟨off,cap,rfl,rfl,rfl,hwd,HSL⟩:=hcut
  clear HL9
  subst hwd
  obtain⟨i0,hi0,hz0,hz1,hz2⟩:=info_parts Ahp
  obtain⟨W,hW⟩:∃ W,wc=W:=⟨_,rfl⟩
  rw [hW] at HJ9 HZ9 HR9 HB9 HS9 HLW HSL ⊢
  clear hW
  go_wp2
  go_loopw [49] (fun iv wr=> ∃ (j:Nat) (l:List Ao) (bj:Bool) (ea:Option Addr) (ec:Nat),j≤LT.length∧iv= .int .i64 j∧Hid (l.length=j)∧Hid (l.map Ao.v=(LT.take j).map fun x=> (Dk x).1)∧Hid (bj=(nb || (LT.take j).any fun x=> (Dk x).2))∧Hid (Gj wr W.heap.size (.slice ea l.length ec) l)∧Hid (Bk wr jb [.slice ea l.length ec, .int .i64 (He w0), .bool eb, .int .i64 sv])∧Hid (Bk wr w.heap.size [.slice none 0 0, .int .i64 0, .bool false, .int .i64 0])∧Hid (Rd wr rb R1 bj)∧Hid (Ab (fun q=> q=jb∨q=rb) W wr)) (fun iv _=> LT.length - (intOf iv).toNat)
  case atStart=> exact⟨0, [],nb,none,0,by omega,rfl,Aa rfl,Aa rfl,(by show nb=_;simp),Gj.nil,HJ9,HZ9,HR9,Ab.refl _ _⟩
  case round=>
   clear HJ9 HZ9 HR9
   obtain⟨j,l,bj,ea,ec,hj,rfl,HLE,HMP,HBJ,HRI,HJ,HZ,HR,HKK⟩:=hrel
   have HBW:Hid (Below w.heap.size w wr):=HB9.out.trans (HKK.out.below (fun q hq=> by have:=HNE.out.1;omega) HB9.out.size)
   have HSW:Hid (W.heap.size≤wr.heap.size):=HKK.out.size
   by_cases hlt:j < LT.length
   ·obtain⟨b,off2,x0,e1,hbw,hx0,k0⟩:=(HSL.out.kept HKK.out fun b o e1=> by cases e1;have:=HNE.out.2;omega).str (k:=j) (by rw [List.length_map];exact hlt)
    cases e1
    obtain⟨x,hx,rfl⟩:∃ x,LT[j]?=some x∧x0=tx x:=by
     rw [List.getElem?_map] at hx0
     obtain⟨a,ha,e⟩:=Option.map_eq_some_iff.1 hx0
     exact⟨a,ha,e.symm⟩
    have hxl:x.length≤800:=HLL.out x (List.mem_cons_of_mem _ (List.mem_of_getElem? hx))
    have HTK:Hid (LT.take (j+1)=LT.take j++ [x]):=by
     obtain⟨h1,h2⟩:=List.getElem?_eq_some_iff.1 hx
     show _=_
     rw [List.take_succ_eq_append_getElem h1,h2]
    have HW1:=Aa (show Rd (wr.alloc (.cells #[.string (tx x), .bool false] 188)).drew wr.heap.size x false from(Bk.new rfl:Bk (wr.alloc (.cells #[.string (tx x), .bool false] 188)) wr.heap.size _))
    have HBW1:Hid (Below w.heap.size w (wr.alloc (.cells #[.string (tx x), .bool false] 188))):=HBW.out.alloc HBW.out.size _
    have HRR:=Aa (Aig wr.heap.size x _ (fun w' k=> HGB.out _ (HBW1.out.drew.trans (k.below (fun q hq=> by have:=HBW.out.size;omega) HBW1.out.drew.size))) HW1.out (by omega))
    have HJ1:=Aa (HJ.out.alloc (.cells #[.string (tx x), .bool false] 188))
    have HZ1:=Aa (HZ.out.alloc (.cells #[.string (tx x), .bool false] 188))
    have HR1':=Aa (Bk.alloc HR.out (.cells #[.string (tx x), .bool false] 188))
    have HKA:Hid (Ab (fun q=> q=wr.heap.size) wr (wr.alloc (.cells #[.string (tx x), .bool false] 188))):=(Ab.refl _ _).alloc _
    have HS1:Hid ((wr.alloc (.cells #[.string (tx x), .bool false] 188)).heap.size=wr.heap.size+1):=by show _=_;simp
    have f1:(0:Int)≤(j:Int)∧(j:Int) < (LT.length:Int):=by omega
    obtain⟨f1,f2⟩:=f1
    have HFL:Hid (l.length+1≤1000000):=by have:=HLE.out;show _≤_;omega
    have HL1:Hid (∀ r:Ao,(l++ [r]).length=l.length+1):=fun r=> by simp
    clear hx0 hx hbw
    go_upto_region 13 with (fail)
    generalize wr.alloc (.cells #[.string (tx x), .bool false] 188)=W1 at *
    have c0:=HJ1.out.get (j:=0) rfl
    have HNX:Hid (jb≠wr.heap.size∧rb≠wr.heap.size∧w.heap.size≠wr.heap.size):=by have h1:=HLW.out;have h2:=HSW.out;have h3:=HNE.out.1;show _∧_;omega
    have HOE:Hid (∀ k,(Value.slice ea l.length ec).ownBlock=some k→W.heap.size≤k∧k < wr.heap.size):=fun k e=> HRI.out.own.lt k e
    refine wp_region_noPanic ?_
    refine Al (S:=(fun w'=> Ab (fun q=> q=wr.heap.size) W1 w')) (E:= [5,7]) (by kernel_rfl) ?_ (fun hHeld=> ?_)
    ·(first | exact(Ab.refl _ _).drew | exact hHeld.trans k1 | exact hHeld.alloc _ | exact hHeld)
    try dsimp only [List.size_toArray,List.length_cons,List.length_nil,Nat.reduceAdd]
    refine hP 0 (v:=?_) rfl (by kernel_rfl) (by rfl) ?_ ?_
    rotate_left
    focus (intro w;go_simp;try with_reducible rfl)
    refine hP 2 (v:=?_) rfl (by kernel_rfl) (by rfl) ?_ ?_
    rotate_left
    focus (intro w;go_simp;try with_reducible rfl)
    refine hT 1 [[1], [1]] (v:=?_) rfl (by kernel_rfl) (by rfl) (by assumption) ?_ ?_
    rotate_left
    focus (intro w hSw;(try dsimp only at hSw);(have t0:=Ab.cell hSw c0 HNX.out.1);go_simp;try with_reducible rfl)
    try simp only [Act.put,List.setIfInBounds_toArray,List.set_cons_zero,List.set_cons_succ]
    refine hR [3] (by kernel_rfl) (by simp) (Ac.cons rfl (fun KH hKH=> ?_) .nil)
    go_simp
    (go_at_call 103;refine HRR.out.mono ?_;unfold RR;rintro e w1 ⟨⟨r,rfl,hrv,hrt,hrx,s',hrd⟩,k1⟩;dsimp only [Ao.agg])
    try go_wp2_with fail
    refine hKH.out _ _ ?_ (fun hNew=> ?_)
    ·(first | exact(Ab.refl _ _).drew | exact hHeld.trans k1 | exact hHeld.alloc _ | exact hHeld)
    clear hKH KH hHeld
    have hHeld:=hNew
    clear hNew
    try simp only [Act.put,List.setIfInBounds_toArray,List.set_cons_zero,List.set_cons_succ]
    refine hR [4] (by kernel_rfl) (by simp) (Ac.cons rfl (fun KH hKH=> ?_) .nil)
    go_simp
    refine hKH.out _ _ ?_ (fun hNew=> ?_)
    ·(first | exact(Ab.refl _ _).drew | exact hHeld.trans k1 | exact hHeld.alloc _ | exact hHeld)
    clear hKH KH hHeld
    have hHeld:=hNew
    clear hNew
    try simp only [Act.put,List.setIfInBounds_toArray,List.set_cons_zero,List.set_cons_succ]
    refine hR [5] (by kernel_rfl) (by simp) (Ac.Bb rfl (by kernel_rfl) (fun KH hKH=> ?_) .nil)
    have hHE:=hHeld
    have hWA:=HKA.out.trans hHE
    have hRA:=HRI.out.kept hWA fun q hq=> .inr (by omega)
    refine Q9 (enc:=A6) Rn _ _ 94 i0 _ rfl rfl Tryz.underlying94 hi0 hz0 hz1 hz2 rfl (by decide) (by decide) hRA.own (Nat.le_trans HSW.out hWA.size) HFL.out rfl r ⟨w1.heap.size,0,none⟩ 1 rfl (Fc rfl rfl) (Ak0 _) ?_
    intro v' w2 ho hgr hat
    have hkk:=Ab.A9 (S:=fun q=> (Value.slice ea l.length ec).ownBlock=some q) hgr fun q e=> e
    have HB5:=Aa ((HJ1.out.kept hHE HNX.out.1).kept hkk fun e=> by have h1:=HOE.out _ e;have h2:=HLW.out;omega)
    have HR5:=Aa (Bk.Gx ((Bk.kept HR1'.out hHE HNX.out.2.1).kept hkk fun e=> by have h1:=HOE.out _ e;have h2:=HLW.out;omega) (p:=⟨jb,0,none⟩) HNE.out.2.1 v')
    have HZ5:=Aa (((HZ1.out.kept hHE HNX.out.2.2).kept hkk fun e=> by have h1:=HOE.out _ e;have h2:=HLW.out;have h3:=HNE.out.1;omega).Gx (p:=⟨jb,0,none⟩) (by have h3:=HNE.out.1;simp;omega) v')
    have HX5:=Aa (Bk.Gx (Bk.kept (Rd.later hrd ((Below.refl _ _).alloc (Nat.le_refl _) _)) hkk fun e=> by have h1:=HOE.out _ e;omega) (p:=⟨jb,0,none⟩) HNX.out.1 v')
    have HRI5:=Aa (HRI.out.put (eb:=jb) (k:=0) (u:=v') HSW.out (Nat.le_refl _) HLW.out.1 hWA (fun t ht=> ((hrt t ht).mono fun q hq=> Nat.le_trans HKA.out.size hq).later ((Below.refl _ _).alloc (Nat.le_refl _) _)) hrx ho hgr hat)
    have HK5:=Aa (((HKK.out.new hWA fun q hq=> by have:=HSW.out;omega).grown hgr fun q e=> (HOE.out q e).1).setCell (p:=⟨jb,0,none⟩) (.inl rfl) v')
    have HMP6:Hid ((l++ [r]).map Ao.v=(LT.take (j+1)).map fun x=> (Dk x).1):=by show _=_;rw [HTK.out,List.map_append,List.map_append,HMP.out];simp [hrv]
    have HBJ6:Hid ((bj || (Dk x).2)=(nb || (LT.take (j+1)).any fun x=> (Dk x).2)):=by show _=_;rw [HTK.out,List.any_append,HBJ.out];simp [Bool.or_assoc]
    have s6:=HB5.out.get (j:=0) rfl
    have y6:=HB5.out.fz 0
    have HB6:=Aa (HB5.out.set (k:=0) v' rfl)
    obtain⟨na,nc,hv'⟩:=id ho.1
    subst hv'
    rw [HL1.out] at HB6 HRI5 HR5 HZ5 HX5 HK5
    clear ho hgr hat hkk hHE hWA hRA hrd hrt hrx hrv k1 c0 HB5
    refine hKH.out _ _ ?_
    clear hKH KH
    try clear hHeld
    try simp only [Act.put,List.setIfInBounds_toArray,List.set_cons_zero,List.set_cons_succ]
    refine hP 6 (v:=?_) rfl (by kernel_rfl) (by rfl) ?_ ?_
    rotate_left
    focus (intro w;go_simp;try with_reducible rfl)
    try simp only [Act.put,List.setIfInBounds_toArray,List.set_cons_zero,List.set_cons_succ]
    refine hR [7] (by kernel_rfl) (by simp) (Ac.Bb rfl (by kernel_rfl) (fun KH hKH=> ?_) .nil)
    go_simp
    refine hKH.out _ _ ?_
    clear hKH KH
    try clear hHeld
    refine Ak (by kernel_rfl) ?_ _
    refine NoPanic.normal ?_
    go_upto_region 14 with (fail)
    generalize w2.setCell ⟨jb,0,none⟩ (.slice na (l.length+1) nc)=w3 at *
    obtain⟨bx,hbx⟩:∃ bx,(Dk x).2=bx:=⟨_,rfl⟩
    rw [hbx] at HX5 HBJ6
    have d1:=Rd.bad HR5.out
    have z1:=Bk.fz HR5.out 1
    have x1:=Rd.bad HX5.out
    have HR6:=Aa (Rd.E9 HR5.out (bj || bx))
    have HB7:=Aa (HB6.out.Gx (p:=⟨rb,1,none⟩) (Ne.symm HNE.out.2.1) (.bool (bj || bx)))
    have HZ7:=Aa (HZ5.out.Gx (p:=⟨rb,1,none⟩) (by have h3:=HNE.out.1;simp;omega) (.bool (bj || bx)))
    have HK7:=Aa (HK5.out.setCell (p:=⟨rb,1,none⟩) (.inr rfl) (.bool (bj || bx)))
    have HRI7:=Aa (HRI5.out.kept ((Ab.refl (fun q=> q=rb) w3).setCell (p:=⟨rb,1,none⟩) rfl (.bool (bj || bx))) fun q hq=> .inl (by have:=HLW.out;omega))
    have HLE7:Hid ((l++ [r]).length=j+1):=by show _=_;rw [HL1.out,HLE.out]
    clear hbx HR5 HZ5 HX5 HRI5 HK5 HB6 HJ1 HZ1 HR1' HW1 HRR HBW1 HKA
    rw [←HL1.out r] at HRI7 HB7
    cases bj with
    | true=>
      go_wp2
      go_roundw
      case rel=> exact⟨j+1,l++ [r],true || bx,na,nc,by omega,by go_num,HLE7,HMP6,HBJ6,HRI7,HB7,HZ7,HR6,HK7⟩
      case measure=> (simp [intOf];try omega)
    | false=>
      go_wp2
      go_roundw
      case rel=> exact⟨j+1,l++ [r],false || bx,na,nc,by omega,by go_num,HLE7,HMP6,HBJ6,HRI7,HB7,HZ7,HR6,HK7⟩
      case measure=> (simp [intOf];try omega)
   ·have hjl:j=LT.length:=by omega
    have HRJ:Hid (Dl s=(l.map Ao.v,He w0,sv,eb,bj)):=by
     show _=_
     rw [Dl,HLN.out]
     simp only [List.drop_succ_cons,List.drop_zero,List.headD_cons]
     rw [HMP.out,HBJ.out,hjl,List.take_length,T8,HW0.out,HR0.out,HSV.out,HR1.out,HEB.out,HNB.out]
    have HKEY:Hid (∀ rv f sl e,Dv rv f sl=0→s=Ke rv f sl e→bj=false∧Gl (l.map Ao.v) (He w0) sv eb=(s,0)):=fun rv f sl e h1 h2=> by
     have h3:=Lv (early:=e) h1
     rw [←h2,HRJ.out] at h3
     simp only [Prod.mk.injEq] at h3
     obtain⟨h4,h5,h6,h7,h8⟩:=h3
     refine⟨h8,?_⟩
     rw [h4,h5,h6,h7]
     unfold Gl
     rw [if_neg (by rw [h1];simp),←h2,if_neg (by omega)]
    have HLL2:Hid (l.length≤maxLen):=by have:=HLE.out;show _≤_;unfold maxLen;omega
    have HJS:=Aa HRI.out.job
    have HTX:=Aa (Ajh ea ec l (He w0) sv eb wr (HGB.out _ HBW.out) HLL2.out HJS.out.sl (fun r hr=> ⟨6,HJS.out.Y9 r hr⟩))
    obtain⟨tt,ef,hto⟩:∃ tt ef,Gl (l.map Ao.v) (He w0) sv eb=(tt,ef):=⟨_,_,rfl⟩
    rw [hto] at HTX HKEY
    have HTO:=Aa hto
    have c0:=HJ.out.get (j:=0) rfl
    have c1:=HJ.out.get (j:=1) rfl
    have c2:=HJ.out.get (j:=2) rfl
    have c3:=HJ.out.get (j:=3) rfl
    clear hto HMP HBJ HRJ HSL hjl HRI
    go_wp2_with fail
    refine HTX.out.mono ?_
    rintro e w10 ⟨rfl,b10⟩
    replace c0:=cell_later b10 c0
    replace c1:=cell_later b10 c1
    replace c2:=cell_later b10 c2
    replace c3:=cell_later b10 c3
    have HZX:=Aa (HZ.out.later b10)
    have HRX:=Aa (Rd.later HR.out b10)
    have HBX:=Aa (HBW.out.trans (b10.mono HBW.out.size))
    have HJX:=Aa (HJS.out.kept (Ab.Ai (S:=fun _=> False) b10 (Nat.le_refl _)) fun _ _ h=> h)
    have d1:=HRX.out.bad
    have x0:=HZX.out.get (j:=0) rfl
    have x1:=HZX.out.get (j:=1) rfl
    have x2:=HZX.out.get (j:=2) rfl
    have x3:=HZX.out.get (j:=3) rfl
    have y0:=HZX.out.fz 0
    have y1:=HZX.out.fz 1
    have y2:=HZX.out.fz 2
    have y3:=HZX.out.fz 3
    have HBF:Hid (∀ v0 v1 v2 v3:Value,Below w.heap.size w ((((w10.setCell ⟨w.heap.size,0,none⟩ v0).setCell ⟨w.heap.size,1,none⟩ v1).setCell ⟨w.heap.size,2,none⟩ v2).setCell ⟨w.heap.size,3,none⟩ v3)):=fun v0 v1 v2 v3=>
     (((HBX.out.setCell (p:=⟨w.heap.size,0,none⟩) (Nat.le_refl _) _).setCell (p:=⟨w.heap.size,1,none⟩) (Nat.le_refl _) _).setCell (p:=⟨w.heap.size,2,none⟩) (Nat.le_refl _) _).setCell (p:=⟨w.heap.size,3,none⟩) (Nat.le_refl _) _
    clear b10 HTX HJS HZ HR HJ
    cases bj with
    | true=>
      have HNO:Hid (∀ rv fold slices early,Dv rv fold slices=0→s=Ke rv fold slices early→800 < s.length):=fun rv f sl e h1 h2=> by have:=(HKEY.out rv f sl e h1 h2).1;cases this
      have hk9:=HZX.out.Ou (.slice none 0 0) (.int .i64 0) (.bool false) (.int .i64 0)
      have f0:=hk9.get (j:=0) rfl
      have f1:=hk9.get (j:=1) rfl
      have f2:=hk9.get (j:=2) rfl
      have f3:=hk9.get (j:=3) rfl
      clear hk9
      go_wp2
      refine bodyPost_ret (v:= .tuple #[.agg #[.slice none 0 0, .int .i64 0, .bool false, .int .i64 0],Du 4]) (by simp [results,Tryz.results65,go_sem,f0,f1,f2,f3,Du]) rfl ?_
      exact⟨.inr ⟨HNO.out,by rw [if_neg (by omega)];rfl⟩,HBF.out _ _ _ _⟩
    | false=>
      by_cases hef:ef=0
      ·subst hef
       rw [A3]
       by_cases hts:tt=s
       ·have g1:((tx tt).toList ==(tx s).toList)=true:=by rw [hts];exact Ag1 _
        have HOK:Hid (Dv (l.map Ao.v) (He w0) sv=0∧s=Ke (l.map Ao.v) (He w0) sv eb∧s.length≤800):=by
         have h1:=HTO.out
         unfold Gl at h1
         split at h1
         ·rename_i h2;simp only [Prod.mk.injEq] at h1;exact absurd h1.2 h2
         ·rename_i h2
          split at h1
          ·simp at h1
          ·simp only [Prod.mk.injEq] at h1
           exact⟨Classical.not_not.1 h2,by rw [←hts,h1.1],by rw [←hts,←h1.1];omega⟩
        have hk9:=HZX.out.Ou (.slice ea l.length ec) (.int .i64 (He w0)) (.bool eb) (.int .i64 sv)
        have f0:=hk9.get (j:=0) rfl
        have f1:=hk9.get (j:=1) rfl
        have f2:=hk9.get (j:=2) rfl
        have f3:=hk9.get (j:=3) rfl
        have HJF:=Aa ((HJX.out.kept (Qt (.slice ea l.length ec) (.int .i64 (He w0)) (.bool eb) (.int .i64 sv) (Ab.refl (fun q=> q=w.heap.size) w10) (b:=w.heap.size) (.inl rfl)) fun q hq e=> by have h2:=HLW.out;have h3:=HNE.out.1;omega).mono (T:=fun q=> w.heap.size≤q) fun q hq=> by have h2:=HLW.out;have h3:=HNE.out.1;omega)
        clear hk9 hts HTO
        go_wp2
        refine bodyPost_ret (v:= .tuple #[.agg #[.slice ea l.length ec, .int .i64 (He w0), .bool eb, .int .i64 sv], .nilIface]) (by simp [results,Tryz.results65,go_sem,f0,f1,f2,f3]) rfl ?_
        exact⟨.inl ⟨ea,ec,l,He w0,sv,eb,HOK.out,rfl,HJF.out⟩,HBF.out _ _ _ _⟩
       ·have g1:=Ag3 (a:=tx tt) (b:=tx s) (fun e=> hts (Zh e))
        have HNO:Hid (∀ rv fold slices early,Dv rv fold slices=0→s=Ke rv fold slices early→800 < s.length):=fun rv f sl e h1 h2=> by have h3:=(HKEY.out rv f sl e h1 h2).2;simp only [Prod.mk.injEq] at h3;exact absurd h3.1 hts
        clear hts
        have hk9:=HZX.out.Ou (.slice none 0 0) (.int .i64 0) (.bool false) (.int .i64 0)
        have f0:=hk9.get (j:=0) rfl
        have f1:=hk9.get (j:=1) rfl
        have f2:=hk9.get (j:=2) rfl
        have f3:=hk9.get (j:=3) rfl
        clear hk9
        go_wp2
        refine bodyPost_ret (v:= .tuple #[.agg #[.slice none 0 0, .int .i64 0, .bool false, .int .i64 0],Du 4]) (by simp [results,Tryz.results65,go_sem,f0,f1,f2,f3,Du]) rfl ?_
        exact⟨.inr ⟨HNO.out,by rw [if_neg (by omega)];rfl⟩,HBF.out _ _ _ _⟩
      ·rw [Ar hef]
       have HNO:Hid (∀ rv fold slices early,Dv rv fold slices=0→s=Ke rv fold slices early→800 < s.length):=fun rv f sl e h1 h2=> by have h3:=(HKEY.out rv f sl e h1 h2).2;simp only [Prod.mk.injEq] at h3;exact absurd h3.2 hef
       clear hef
       have hk9:=HZX.out.Ou (.slice none 0 0) (.int .i64 0) (.bool false) (.int .i64 0)
       have f0:=hk9.get (j:=0) rfl
       have f1:=hk9.get (j:=1) rfl
       have f2:=hk9.get (j:=2) rfl
       have f3:=hk9.get (j:=3) rfl
       clear hk9
       go_wp2
       refine bodyPost_ret (v:= .tuple #[.agg #[.slice none 0 0, .int .i64 0, .bool false, .int .i64 0],Du 4]) (by simp [results,Tryz.results65,go_sem,f0,f1,f2,f3,Du]) rfl ?_
       exact⟨.inr ⟨HNO.out,by rw [if_neg (by omega)];rfl⟩,HBF.out _ _ _ _⟩
end Go.Proofs.YtbibeionenjmfaaGreatDoor
