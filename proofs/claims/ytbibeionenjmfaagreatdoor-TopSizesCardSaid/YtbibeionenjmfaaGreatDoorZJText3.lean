/- The text of a job: job.folds, job.Text. -/
import Derived.Test.YtbibeionenjmfaaGreatDoorZJText2
import Derived.Test.YtbibeionenjmfaaGreatDoorZJobCheck2
set_option linter.unusedSimpArgs false
set_option linter.unusedVariables false
namespace Go.Proofs.YtbibeionenjmfaaGreatDoor
open Go.RowKit
def Gl (rs:List Aw) (fold slices:Int) (early:Bool):List UInt8×Int:=
 if Dv rs fold slices≠0 then([],Dv rs fold slices) else if 800 < (Ke rs fold slices early).length then([],2) else(Ke rs fold slices early,0)
theorem Xu {r:Aw} (h:Cj r=0):(Az r.cond).length≤3030∧(Az r.key).length≤3030∧(Az r.val).length≤3030∧(B4 r.C1.data.toList).length≤42∧(Ea r).length≤3100∧(Hb r).length≤9300:=by
 obtain⟨hok,hb,_⟩:=Jh h
 obtain⟨k1,k2,k3⟩:=hok.key
 obtain⟨v1,v2,v3⟩:=hok.val
 have h1:=K8 _ _ _ k3
 have h2:=K8 _ _ _ v3
 have h3:(Az r.cond).length≤3030:=by
  by_cases h0:r.Bc=0
  ·rw [(hb h0).1];decide
  ·obtain⟨c1,c2,c3⟩:=hok.cond h0
   have:=K8 _ _ _ c3
   omega
 have h4:(B4 r.C1.data.toList).length≤42:=by
  have:=Pc r.C1.data.toList
  rw [Fw] at this
  have:=hok.C1
  simp only [B4,List.length_cons,List.length_append,List.length_nil]
  omega
 have h5:(Ea r).length≤3100:=by
  unfold Ea
  split
  ·simp
  ·simp only [List.length_append,List.length_cons,List.length_nil]
   split <;> simp only [List.length_cons,List.length_nil] <;> omega
 have h6:(Hz r.each).length≤5:=by unfold Hz;split <;> decide
 refine⟨h3,by omega,by omega,h4,h5,?_⟩
 unfold Hb
 simp only [List.length_append,List.length_cons,List.length_nil]
 omega
def F8 (l:List Aw):List UInt8:=l.flatMap fun r=> Hb r++ [10]
theorem Abd {l:List Aw} {j:Nat} {r:Aw} (h:l[j]?=some r):F8 (l.take (j+1))=F8 (l.take j)++(Hb r++ [10]):=by
 obtain⟨hlt,hx⟩:=List.getElem?_eq_some_iff.1 h
 rw [List.take_succ_eq_append_getElem hlt,hx]
 unfold F8
 rw [List.flatMap_append]
 simp
theorem Ug:∀ (l:List Aw),(∀ r∈l,Cj r=0)→(F8 l).length≤9301 * l.length
 | [],_=> by simp [F8]
 | r::l,h=> by
   have h1:=(Xu (h r List.mem_cons_self)).2.2.2.2.2
   have h2:=Ug l fun x hx=> h x (List.mem_cons_of_mem _ hx)
   have e:F8 (r::l)=(Hb r++ [10])++F8 l:=rfl
   rw [e,List.length_append,List.length_append,List.length_cons]
   simp only [List.length_cons,List.length_nil]
   omega
def Ln:List ByteArray:= [tx [],tx (C3 1),tx (C3 2),tx (C3 3),tx (C3 4)]
set_option maxRecDepth 100000 in
theorem Qo (w:World):Calls Tryz.prog 101 #[] w fun e w'=> e= .returned (.slice (some ⟨w.heap.size,0,none⟩) 5 5)∧(∀ (j:Nat) x,Ln[j]?=some x→w'.cell? ⟨w.heap.size,j,none⟩=some (.string x))∧w.heap.size < w'.heap.size∧Below w.heap.size w w':=by
 go_enter Tryz.func101,Tryz.ntmps101
 go_wp2
 go_ret
 refine⟨rfl,fun j x hj=> ?_,by simp,(Below.refl _ _).alloc (Nat.le_refl _) _⟩
 have hk:=Bk.new (w:=w) (cs:=(Ln.map Value.string).toArray) (t:=9) rfl
 exact hk.get (j:=j) (by rw [List.getElem?_map,hj];rfl)
set_option maxRecDepth 100000 in
set_option maxHeartbeats 4000000 in
theorem Ajh (ro:Option Addr) (rc:Nat) (rs:List Ao) (fold slices:Int) (early:Bool) (w:World) (hg:GT w) (hl:rs.length≤maxLen) (hs:Sl 15 A6 w ro rs) (hr:∀ r∈rs,∃ d,Ka w d r):
 Calls Tryz.prog 104 #[.agg #[.slice ro rs.length rc, .int .i64 fold, .bool early, .int .i64 slices]] w fun e w'=> e= .returned (.tuple #[.string (tx (Gl (rs.map Ao.v) fold slices early).1),Du (Gl (rs.map Ao.v) fold slices early).2])∧Below w.heap.size w w':=by
 obtain⟨W,hW⟩:∃ W,W=w.alloc (.cells #[.slice ro rs.length rc, .int .i64 fold, .bool early, .int .i64 slices] 96):=⟨_,rfl⟩
 have hb0:Below w.heap.size w W:=by rw [hW];exact(Below.refl _ _).alloc (Nat.le_refl _) _
 have hbk:Bk W w.heap.size [.slice ro rs.length rc, .int .i64 fold, .bool early, .int .i64 slices]:=by rw [hW];exact Bk.new rfl
 have HS:=Aa hs
 have HR:=Aa hr
 have HB:=Aa hb0
 have HBK:=Aa hbk
 have HWW:=Aa hW
 have HG:=Aa hg
 have HJC:=Aa (Pf ro rc rs fold slices early W hl (hs.later hb0 (Nat.le_refl _)) fun r hr'=> by obtain⟨d,h⟩:=hr r hr';exact⟨d,h.later hb0 (Nat.le_refl _)⟩)
 obtain⟨RV,hRV⟩:∃ RV,RV=rs.map Ao.v:=⟨_,rfl⟩
 rw [←hRV] at HJC ⊢
 have HRV:=Aa hRV
 clear hRV
 obtain⟨jf,hjf⟩:∃ jf,Dv RV fold slices=jf:=⟨_,rfl⟩
 have HJF:=Aa hjf
 rw [hjf] at HJC
 have j0:=hbk.get (j:=0) rfl
 have j1:=hbk.get (j:=1) rfl
 have j2:=hbk.get (j:=2) rfl
 have j3:=hbk.get (j:=3) rfl
 unfold maxLen at hl
 clear hs hr hb0 hbk hW hg hjf
 go_enter Tryz.func104,Tryz.ntmps104
 go_upto_region 1 with (fail)
 rw [←HWW.out]
 clear HWW
 go_wp2_with fail
 refine HJC.out.mono ?_
 rintro e w1 ⟨rfl,b1⟩
 replace j0:=cell_later b1 j0
 replace j1:=cell_later b1 j1
 replace j2:=cell_later b1 j2
 replace j3:=cell_later b1 j3
 replace HB:=Aa (HB.out.trans (b1.mono HB.out.size))
 replace HBK:=Aa (HBK.out.later b1)
 clear b1 HJC
 by_cases hj0:jf=0
 case neg=>
  rw [Ar hj0]
  have HO:Hid (Gl RV fold slices early=([],jf)):=by show _=_;unfold Gl;rw [HJF.out,if_pos hj0]
  go_wp2
  go_ret2
  exact⟨by rw [HO.out,Ar hj0];rfl,HB.out⟩
 subst hj0
 rw [A3]
 have hok:=Lo HJF.out
 obtain⟨⟨hl1,hl4⟩,hf,hsl,hrok⟩:=hok
 rw [HRV.out,List.length_map] at hl1 hl4
 have HROK:=Aa hrok
 obtain⟨m,hm⟩:∃ m:Nat,fold=(m:Int):=⟨fold.toNat,by omega⟩
 subst hm
 have hm4:1≤m∧m≤4:=by omega
 have HFO:Hid (∀ (w':World) g,(∀ (j:Nat) x,Ln[j]?=some x→w'.cell? ⟨g,j,none⟩=some (.string x))→w'.cell? ⟨g,m,none⟩=some (.string (tx (C3 m)))):=fun w' g h=> by
  refine h m _ ?_
  have:m=1∨m=2∨m=3∨m=4:=by omega
  rcases this with rfl | rfl | rfl | rfl <;> rfl
 have HI:=Aa fun w' (hb:Below w1.heap.size w1 w')=> Gc slices w' (HG.out.later (HB.out.trans (hb.mono HB.out.size)) (Nat.le_refl _)) (by omega) (by omega)
 have hfl:(tx (C3 m)).size≤8:=by
  have:m=1∨m=2∨m=3∨m=4:=by omega
  rcases this with rfl | rfl | rfl | rfl <;> decide
 have hil:(tx (Lib.itoa slices)).size≤20:=by rw [Am];exact C4 (by omega) (by omega)
 have HP:Hid ((tx (C3 m)++⟨#[32]⟩)++tx (Lib.itoa slices)=tx (C3 m++32::Lib.itoa slices)):=by
  show _=_
  apply Dc
  rw [tl,tl,Ap]
  simp [tx,ByteArray.data_append]
 obtain⟨HD,hHD⟩:∃ HD,HD=Jv m slices early:=⟨_,rfl⟩
 have HHD:=Aa hHD
 have hhl:HD.length≤60:=by
  rw [hHD]
  have h1:(C3 m).length≤8:=by rw [Am] at hfl;exact hfl
  have h2:(Lib.itoa slices).length≤20:=by rw [Am] at hil;exact hil
  unfold Jv
  simp only [List.length_append,List.length_cons]
  split <;> simp only [List.length_cons,List.length_nil] <;> omega
 clear hHD hf hsl hrok
 have g0:(0:Int)≤(m:Int)∧(m:Int) < 5:=by omega
 obtain⟨g0,g1⟩:=g0
 go_upto_region 4 with (fail)
 go_cut [5] from 13 to 22 (fun sv wc=> sv= .string (tx (C3 m++32::Lib.itoa slices))∧Hid (Below w1.heap.size w1 wc))
 case first=>
  generalize tx (C3 m)=F0 at *
  generalize tx (Lib.itoa slices)=D0 at *
  have n1:¬ 9223372036854775807 < F0.size+1:=by omega
  have n2:¬ 9223372036854775807 < F0.size+1+D0.size:=by omega
  refine wp_region_noPanic ?_
  refine Al (S:=(fun w'=> Below w1.heap.size w1 w')) (E:= [10]) (by kernel_rfl) ?_ (fun hHeld=> ?_)
  ·(first | exact(Below.refl _ _).drew | exact hHeld.trans (b3.mono hHeld.size) | exact hHeld.trans (b2.mono hHeld.size) | exact hHeld)
  try dsimp only [List.size_toArray,List.length_cons,List.length_nil,Nat.reduceAdd]
  refine hP 1 (v:=?_) rfl (by kernel_rfl) (by rfl) ?_ ?_
  rotate_left
  focus (intro w;go_simp;try with_reducible rfl)
  refine hP 6 (v:=?_) rfl (by kernel_rfl) (by rfl) ?_ ?_
  rotate_left
  focus (intro w;go_simp;try with_reducible rfl)
  refine hT 2 [[2]] (v:=?_) rfl (by kernel_rfl) (by rfl) (by assumption) ?_ ?_
  rotate_left
  focus (intro w hSw;(try dsimp only at hSw);(have t0:=cell_later hSw j1;have t1:=cell_later hSw j3);go_simp;try with_reducible rfl)
  refine hT 7 [[7]] (v:=?_) rfl (by kernel_rfl) (by rfl) (by assumption) ?_ ?_
  rotate_left
  focus (intro w hSw;(try dsimp only at hSw);(have t0:=cell_later hSw j1;have t1:=cell_later hSw j3);go_simp;try with_reducible rfl)
  try simp only [Act.put,List.setIfInBounds_toArray,List.set_cons_zero,List.set_cons_succ]
  refine hR [0] (by kernel_rfl) (by simp) (Ac.cons rfl (fun KH hKH=> ?_) .nil)
  go_simp
  (go_at_call 101;refine(Qo _).mono ?_;rintro e w2 ⟨rfl,hf2,hz2,b2⟩;(first | have c4:=HFO.out _ w1.heap.size hf2 | have c4:=HFO.out _ _ hf2);clear hf2)
  try go_wp2_with fail
  refine hKH.out _ _ ?_ (fun hNew=> ?_)
  ·(first | exact(Below.refl _ _).drew | exact hHeld.trans (b3.mono hHeld.size) | exact hHeld.trans (b2.mono hHeld.size) | exact hHeld)
  clear hKH KH hHeld
  have hHeld:=hNew
  clear hNew
  try simp only [Act.put,List.setIfInBounds_toArray,List.set_cons_zero,List.set_cons_succ]
  refine hP 3 (v:=?_) rfl (by kernel_rfl) (by rfl) ?_ ?_
  rotate_left
  focus (intro w;go_simp;try with_reducible rfl)
  try simp only [Act.put,List.setIfInBounds_toArray,List.set_cons_zero,List.set_cons_succ]
  refine hR [4,8] (by kernel_rfl) (by simp) (Ac.cons rfl (fun KH hKH=> ?_) (Ac.cons rfl (fun KH hKH=> ?_) .nil))
  ·go_simp
   refine hKH.out _ _ ?_ (fun hNew=> ?_)
   ·(first | exact(Below.refl _ _).drew | exact hHeld.trans (b3.mono hHeld.size) | exact hHeld.trans (b2.mono hHeld.size) | exact hHeld)
   clear hKH KH hHeld
   have hHeld:=hNew
   clear hNew
   try simp only [Act.put,List.setIfInBounds_toArray,List.set_cons_zero,List.set_cons_succ]
   refine hP 5 (v:=?_) rfl (by kernel_rfl) (by rfl) ?_ ?_
   rotate_left
   focus (intro w;go_simp;try with_reducible rfl)
   try simp only [Act.put,List.setIfInBounds_toArray,List.set_cons_zero,List.set_cons_succ]
   refine hR [8] (by kernel_rfl) (by simp) (Ac.cons rfl (fun KH hKH=> ?_) .nil)
   go_simp
   (go_at_call 88;refine(HI.out _ hHeld).mono ?_;rintro e w3 ⟨rfl,b3⟩)
   try replace c4:=(b3.cell hz2).trans c4
   try go_wp2_with fail
   refine hKH.out _ _ ?_ (fun hNew=> ?_)
   ·(first | exact(Below.refl _ _).drew | exact hHeld.trans (b3.mono hHeld.size) | exact hHeld.trans (b2.mono hHeld.size) | exact hHeld)
   clear hKH KH hHeld
   have hHeld:=hNew
   clear hNew
   try simp only [Act.put,List.setIfInBounds_toArray,List.set_cons_zero,List.set_cons_succ]
   refine hP 9 (v:=?_) rfl (by kernel_rfl) (by rfl) ?_ ?_
   rotate_left
   focus (intro w;go_simp;try with_reducible rfl)
   try simp only [Act.put,List.setIfInBounds_toArray,List.set_cons_zero,List.set_cons_succ]
   refine hR [10] (by kernel_rfl) (by simp) (Ac.Bb rfl (by kernel_rfl) (fun KH hKH=> ?_) .nil)
   have HBX:=Aa hHeld
   go_simp
   refine hKH.out _ _ ?_
   clear hKH KH
   try clear hHeld
   refine Ak (by kernel_rfl) ?_ _
   refine NoPanic.normal ?_
   go_wp2
   go_meet
   exact⟨by rw [HP.out],HBX⟩
  ·go_simp
   (go_at_call 88;refine(HI.out _ hHeld).mono ?_;rintro e w3 ⟨rfl,b3⟩)
   try replace c4:=(b3.cell hz2).trans c4
   try go_wp2_with fail
   refine hKH.out _ _ ?_ (fun hNew=> ?_)
   ·(first | exact(Below.refl _ _).drew | exact hHeld.trans (b3.mono hHeld.size) | exact hHeld.trans (b2.mono hHeld.size) | exact hHeld)
   clear hKH KH hHeld
   have hHeld:=hNew
   clear hNew
   try simp only [Act.put,List.setIfInBounds_toArray,List.set_cons_zero,List.set_cons_succ]
   refine hR [4] (by kernel_rfl) (by simp) (Ac.cons rfl (fun KH hKH=> ?_) .nil)
   go_simp
   refine hKH.out _ _ ?_ (fun hNew=> ?_)
   ·(first | exact(Below.refl _ _).drew | exact hHeld.trans (b3.mono hHeld.size) | exact hHeld.trans (b2.mono hHeld.size) | exact hHeld)
   clear hKH KH hHeld
   have hHeld:=hNew
   clear hNew
   try simp only [Act.put,List.setIfInBounds_toArray,List.set_cons_zero,List.set_cons_succ]
   refine hP 5 (v:=?_) rfl (by kernel_rfl) (by rfl) ?_ ?_
   rotate_left
   focus (intro w;go_simp;try with_reducible rfl)
   refine hP 9 (v:=?_) rfl (by kernel_rfl) (by rfl) ?_ ?_
   rotate_left
   focus (intro w;go_simp;try with_reducible rfl)
   try simp only [Act.put,List.setIfInBounds_toArray,List.set_cons_zero,List.set_cons_succ]
   refine hR [10] (by kernel_rfl) (by simp) (Ac.Bb rfl (by kernel_rfl) (fun KH hKH=> ?_) .nil)
   have HBX:=Aa hHeld
   go_simp
   refine hKH.out _ _ ?_
   clear hKH KH
   try clear hHeld
   refine Ak (by kernel_rfl) ?_ _
   refine NoPanic.normal ?_
   go_wp2
   go_meet
   exact⟨by rw [HP.out],HBX⟩
 case rest=>
 obtain⟨rfl,HBC⟩:=hcut
 have HBC2:=Aa (HB.out.trans (HBC.out.mono HB.out.size))
 replace HBK:=Aa (HBK.out.later HBC.out)
 replace j0:=cell_later HBC.out j0
 replace j2:=cell_later HBC.out j2
 clear HI HFO HP g0 g1 j1 j3 HBC HB
 have hpl:(tx (C3 m++32::Lib.itoa slices)).size≤60:=by
  rw [Am] at hfl hil ⊢
  simp only [List.length_append,List.length_cons];omega
 have HE1:Hid (early=true→tx (C3 m++32::Lib.itoa slices)++⟨#[32,101,97,114,108,121]⟩=tx HD):=fun he=> by
  rw [HHD.out,Jv,if_pos he]
  apply Dc
  rw [tl,tl,Ap]
  simp [tx,ByteArray.data_append]
 have HE0:Hid (early=false→tx (C3 m++32::Lib.itoa slices)=tx HD):=fun he=> by
  rw [HHD.out,Jv,if_neg (by rw [he];decide),List.append_nil]
 generalize tx (C3 m++32::Lib.itoa slices)=H0 at *
 have n1:¬ 9223372036854775807 < H0.size+6:=by omega
 go_upto_if 24 with (fail)
 go_cut [5] from 25 to 26 (fun sv wc=> sv= .string (tx HD)∧Hid (Below w.heap.size w wc)∧Hid (Bk wc w.heap.size [.slice ro rs.length rc, .int .i64 m, .bool early, .int .i64 slices]))
 case first=>
  cases early with
  | true=>
    have HE:=Aa (HE1.out rfl)
    clear HE1 HE0
    go_wp2
    go_meet
    exact⟨by rw [←HE.out],HBC2,HBK⟩
  | false=>
    have HE:=Aa (HE0.out rfl)
    clear HE1 HE0
    go_wp2
    go_meet
    exact⟨by rw [←HE.out],HBC2,HBK⟩
 case rest=>
 clear j0 j2 HBC2 HBK
 obtain⟨rfl,HB,HBK⟩:=hcut
 clear HE1 HE0 n1 hpl
 have j0:=HBK.out.get (j:=0) rfl
 have hds:(tx HD).size≤60:=by rw [Am];exact hhl
 have n1:¬ 9223372036854775807 < (tx HD).size+1:=by omega
 have hlen:RV.length=rs.length:=by rw [HRV.out];simp
 have HP0:Hid (tx HD++⟨#[10]⟩=tx (HD++10::F8 (RV.take 0))):=by
  show _=_
  apply Dc
  rw [tl,tl,Ap]
  simp [tx,ByteArray.data_append,F8]
 have HSZ:Hid (∀ j,j≤RV.length→(tx (HD++10::F8 (RV.take j))).size≤40000):=fun j hj=> by
  have h1:=Ug (RV.take j) fun r hr=> HROK.out r (List.mem_of_mem_take hr)
  rw [List.length_take] at h1
  rw [Am,List.length_append,List.length_cons]
  omega
 have HLN:=Aa hlen
 clear hlen
 go_wp2
 rw [HP0.out]
 go_loopw [5,32] (fun sv iv wr=> ∃ j:Nat,j≤rs.length∧iv= .int .i64 j∧sv= .string (tx (HD++10::F8 (RV.take j)))∧Hid (Below w.heap.size w wr)) (fun _ iv _=> rs.length - (intOf iv).toNat)
 case atStart=> exact⟨0,by omega,rfl,rfl,HB⟩
 case round=>
  clear HP0 n1 HBK HB j0
  obtain⟨j,hj,rfl,rfl,HB⟩:=hrel
  by_cases hlt:j < rs.length
  ·obtain⟨b,off,r,rfl,hbw,hx,hc⟩:=(HS.out.later HB.out (Nat.le_refl _)).Y9 hlt
   obtain⟨d,hrd⟩:=HR.out r (List.mem_of_getElem? hx)
   have hxv:RV[j]?=some r.v:=by rw [HRV.out,List.getElem?_map,hx];rfl
   have hrf:Cj r.v=0:=HROK.out _ (List.mem_of_getElem? hxv)
   obtain⟨z1,z2,z3,z4,z5,z6⟩:=Xu hrf
   have hS0:=HSZ.out j (by rw [HLN.out];omega)
   have HFIN:Hid (tx (((HD++10::F8 (RV.take j))++Hz r.each++Ea r.v)++ [107,101,121,32]++Az r.key.tree++ [32,118,97,108,32]++Az r.val.tree++ [10])=tx (HD++10::F8 (RV.take (j+1)))):=by
    show _=_
    rw [Abd hxv,Hb]
    simp [Ao.v]
   obtain⟨hok,hbl,_⟩:=Jh hrf
   have hwn:=hok.whn
   have HCO:=Aa hok.cond
   have HTX:=Aa hok.C1
   have HKO:=Aa hok.key
   have HVO:=Aa hok.val
   have hel:(Hz r.each).length≤5:=by unfold Hz;split <;> decide
   obtain⟨P0,hP0⟩:∃ P0,P0=HD++10::F8 (RV.take j):=⟨_,rfl⟩
   rw [←hP0] at HFIN hS0 ⊢
   clear hP0
   obtain⟨wh,hwh⟩:∃ wh,r.Bc=wh:=⟨_,rfl⟩
   have hwn2:wh=0∨wh=1∨wh=2:=by rw [←hwh];exact hwn
   have HWH:=Aa hwh
   have k0:wr.cell? ⟨b,off+j * 15,none⟩=some (.bool r.each):=hc 0 _ rfl
   have k1:=hc 1 _ rfl
   have k2:=hc 2 _ rfl
   have k3:=hc 3 _ rfl
   have k4:=hc 4 _ rfl
   have k5:=hc 5 _ rfl
   have k6:=hc 6 _ rfl
   have k7:=hc 7 _ rfl
   have k8:=hc 8 _ rfl
   have k9:=hc 9 _ rfl
   have k10:=hc 10 _ rfl
   have k11:=hc 11 _ rfl
   have k12:=hc 12 _ rfl
   have k13:=hc 13 _ rfl
   have k14:=hc 14 _ rfl
   have f1:(0:Int)≤(j:Int)∧(j:Int) < (rs.length:Int):=by omega
   obtain⟨f1,f2⟩:=f1
   clear hx hxv hrf hc hok hbl hwn hwh
   go_upto_region 11 with (fail)
   have hbA:Below wr.heap.size wr (wr.alloc (.cells #[.bool r.each, .int .i64 r.Bc, .int .i64 r.cond.k, .int .i64 r.cond.n, .string r.cond.s, .slice r.cond.ao r.cond.a.length r.cond.cap, .string r.C1, .int .i64 r.key.k, .int .i64 r.key.n, .string r.key.s, .slice r.key.ao r.key.a.length r.key.cap, .int .i64 r.val.k, .int .i64 r.val.n, .string r.val.s, .slice r.val.ao r.val.a.length r.val.cap] 193)):=(Below.refl _ _).alloc (Nat.le_refl _) _
   have hbk2:Bk (wr.alloc (.cells #[.bool r.each, .int .i64 r.Bc, .int .i64 r.cond.k, .int .i64 r.cond.n, .string r.cond.s, .slice r.cond.ao r.cond.a.length r.cond.cap, .string r.C1, .int .i64 r.key.k, .int .i64 r.key.n, .string r.key.s, .slice r.key.ao r.key.a.length r.key.cap, .int .i64 r.val.k, .int .i64 r.val.n, .string r.val.s, .slice r.val.ao r.val.a.length r.val.cap] 193)) wr.heap.size (A6 r):=Bk.new rfl
   replace k0:=hbk2.get (j:=0) rfl
   replace k1:=hbk2.get (j:=1) rfl
   replace k2:=hbk2.get (j:=2) rfl
   replace k3:=hbk2.get (j:=3) rfl
   replace k4:=hbk2.get (j:=4) rfl
   replace k5:=hbk2.get (j:=5) rfl
   replace k6:=hbk2.get (j:=6) rfl
   replace k7:=hbk2.get (j:=7) rfl
   replace k8:=hbk2.get (j:=8) rfl
   replace k9:=hbk2.get (j:=9) rfl
   replace k10:=hbk2.get (j:=10) rfl
   replace k11:=hbk2.get (j:=11) rfl
   replace k12:=hbk2.get (j:=12) rfl
   replace k13:=hbk2.get (j:=13) rfl
   replace k14:=hbk2.get (j:=14) rfl
   have HB2:=Aa (HB.out.trans (hbA.mono HB.out.size))
   have HRA:=Aa fun w' (hb:Below w.heap.size w w')=> hrd.later hb (Nat.le_refl _)
   clear hbA hbk2 hrd
   generalize wr.alloc (.cells #[.bool r.each, .int .i64 r.Bc, .int .i64 r.cond.k, .int .i64 r.cond.n, .string r.cond.s, .slice r.cond.ao r.cond.a.length r.cond.cap, .string r.C1, .int .i64 r.key.k, .int .i64 r.key.n, .string r.key.s, .slice r.key.ao r.key.a.length r.key.cap, .int .i64 r.val.k, .int .i64 r.val.n, .string r.val.s, .slice r.val.ao r.val.a.length r.val.cap] 193)=W2 at *
   rw [HWH.out] at k1
   obtain⟨eb,heb⟩:∃ eb,r.each=eb:=⟨_,rfl⟩
   have HEB:=Aa heb
   rw [heb] at k0
   clear heb
   have hPE:(tx (P0++Hz r.each)).size≤40005:=by rw [Am] at hS0 ⊢;rw [List.length_append];omega
   go_upto_if 37 with (fail)
   go_cut [5] from 38 to 39 (fun sv wc=> sv= .string (tx (P0++Hz r.each))∧wc=W2)
   case first=>
    have n1:¬ 9223372036854775807 < (tx P0).size+5:=by omega
    cases eb with
    | true=>
      have HE:Hid (tx P0++⟨#[101,97,99,104,32]⟩=tx (P0++Hz r.each)):=by
       show _=_
       rw [HEB.out]
       apply Dc
       rw [tl,tl,Ap]
       simp [tx,ByteArray.data_append,Hz]
      go_wp2
      go_meet
      exact⟨by rw [←HE.out],rfl⟩
    | false=>
      have HE:Hid (tx P0=tx (P0++Hz r.each)):=by show _=_;rw [HEB.out];simp [Hz]
      go_wp2
      go_meet
      exact⟨by rw [←HE.out],rfl⟩
   case rest=>
   obtain⟨rfl,rfl⟩:=hcut
   have hPW:(tx (P0++Hz r.each++Ea r.v)).size≤43105:=by rw [Am] at hPE ⊢;rw [List.length_append];omega
   obtain⟨P1,hP1⟩:∃ P1,P1=P0++Hz r.each:=⟨_,rfl⟩
   rw [←hP1] at HFIN hPE hPW ⊢
   clear hP1
   have HG2:=Aa fun w' (hb:Below wc.heap.size wc w')=> HG.out.later (HB2.out.trans (hb.mono HB2.out.size)) (Nat.le_refl _)
   obtain⟨tb,htb⟩:∃ tb,(wh !=0)=tb:=⟨_,rfl⟩
   go_upto_if 42 with (fail)
   have HTB:=Aa htb
   clear htb
   go_cut [5] from 43 to 59 (fun sv wd=> sv= .string (tx (P1++Ea r.v))∧Hid (Below wc.heap.size wc wd))
   case first=>
    by_cases hw0:wh=0
    ·subst hw0
     obtain rfl:tb=false:=by rw [←HTB.out];rfl
     clear HTB
     have HE:Hid (tx P1=tx (P1++Ea r.v)):=by
      show _=_
      rw [Ea,if_pos (show r.v.Bc=0 from HWH.out),List.append_nil]
     go_wp2
     go_meet
     exact⟨by rw [←HE.out],Below.refl _ _⟩
    ·obtain⟨mw,hmw⟩:∃ mw:Nat,wh=(mw:Int):=⟨wh.toNat,by omega⟩
     subst hmw
     have hmw2:mw=1∨mw=2:=by omega
     obtain⟨c1,c2,c3⟩:=HCO.out (by show r.Bc≠0;rw [HWH.out];exact hw0)
     obtain⟨NS,hNS⟩:∃ NS:List UInt8,NS=if mw=1 then [115,97,109,101,32] else [111,116,104,101,114,32]:=⟨_,rfl⟩
     have hnl:(tx NS).size≤6:=by rw [Am,hNS];split <;> decide
     have H5:Hid (∀ w':World,Below wc.heap.size wc w'→(w'.alloc (.cells #[.string ⟨#[]⟩, .string ⟨#[115,97,109,101,32]⟩, .string ⟨#[111,116,104,101,114,32]⟩] 9)).cell? ⟨w'.heap.size,mw,none⟩=some (.string (tx NS))):=fun w' _=> by
      rcases hmw2 with rfl | rfl
      ·rw [hNS];exact(Bk.new rfl).get (j:=1) rfl
      ·rw [hNS];exact(Bk.new rfl).get (j:=2) rfl
     have HT:=Aa fun w' (hb:Below wc.heap.size wc w')=> Vf d r.cond.k r.cond.n r.cond.s r.cond.a r.cond.ao r.cond.cap w' true r.each (HG2.out w' hb) (HRA.out w' (HB2.out.trans (hb.mono HB2.out.size))).cond c3 (Nat.le_trans c1 (by decide))
     have HQ:=Aa fun w' (hb:Below wc.heap.size wc w')=> Xr r.C1 w' (HG2.out w' hb).gm (by have:r.C1.size≤20:=HTX.out;omega)
     have HE:Hid (tx P1++((((tx NS++tx (Az (.mk r.cond.k r.cond.n r.cond.s r.cond.a)))++⟨#[32]⟩)++tx (B4 r.C1.data.toList))++⟨#[32]⟩)=tx (P1++Ea r.v)):=by
      show _=_
      rw [Ea,if_neg (by show ¬ r.Bc=0;rw [HWH.out];exact hw0),hNS]
      have e:(if r.v.Bc=1 then [115,97,109,101,32] else [111,116,104,101,114,(32:UInt8)])=if mw=1 then [115,97,109,101,32] else [111,116,104,101,114,32]:=by
       rw [show r.v.Bc=(mw:Int) from HWH.out]
       rcases hmw2 with rfl | rfl <;> rfl
      rw [e]
      apply Dc
      rw [tl,tl,Ap]
      simp [tx,ByteArray.data_append,Ao.v,Gy.tree]
     have z1':(tx (Az (.mk r.cond.k r.cond.n r.cond.s r.cond.a))).size≤3030:=by rw [Am];exact z1
     have z4':(tx (B4 r.C1.data.toList)).size≤42:=by rw [Am];exact z4
     generalize tx (Az (.mk r.cond.k r.cond.n r.cond.s r.cond.a))=T0 at *
     generalize tx (B4 r.C1.data.toList)=Q0 at *
     generalize tx NS=N0 at *
     generalize tx P1=S1 at *
     have n1:¬ 9223372036854775807 < N0.size+T0.size:=by omega
     have n2:¬ 9223372036854775807 < N0.size+T0.size+1:=by omega
     have n3:¬ 9223372036854775807 < N0.size+T0.size+1+Q0.size:=by omega
     have n4:¬ 9223372036854775807 < N0.size+T0.size+1+Q0.size+1:=by omega
     have n5:¬ 9223372036854775807 < S1.size+(N0.size+T0.size+1+Q0.size+1):=by omega
     have g2:(0:Int)≤(mw:Int)∧(mw:Int) < 3:=by omega
     obtain⟨g2,g3⟩:=g2
     obtain rfl:tb=true:=by rw [←HTB.out];simpa using hw0
     clear HTB
     clear hNS c1 c2 c3
     go_upto_region 14 with (fail)
     refine wp_region_noPanic ?_
     refine Al (S:=(fun w'=> Below wc.heap.size wc w')) (E:= [17]) (by kernel_rfl) ?_ (fun hHeld=> ?_)
     ·(first | exact(Below.refl _ _).drew | exact hHeld.trans (b4.mono hHeld.size) | exact hHeld.trans (b3.mono hHeld.size) | exact hHeld.alloc hHeld.size _ | exact hHeld)
     try dsimp only [List.size_toArray,List.length_cons,List.length_nil,Nat.reduceAdd]
     refine hP 0 (v:=?_) rfl (by kernel_rfl) (by rfl) ?_ ?_
     rotate_left
     focus (intro w;go_simp;try with_reducible rfl)
     refine hP 2 (v:=?_) rfl (by kernel_rfl) (by rfl) ?_ ?_
     rotate_left
     focus (intro w;go_simp;try with_reducible rfl)
     refine hP 6 (v:=?_) rfl (by kernel_rfl) (by rfl) ?_ ?_
     rotate_left
     focus (intro w;go_simp;try with_reducible rfl)
     refine hP 11 (v:=?_) rfl (by kernel_rfl) (by rfl) ?_ ?_
     rotate_left
     focus (intro w;go_simp;try with_reducible rfl)
     refine hT 3 [[3]] (v:=?_) rfl (by kernel_rfl) (by rfl) (by assumption) ?_ ?_
     rotate_left
     focus (intro w hSw;(try dsimp only at hSw);(have t0:=cell_later hSw k1;have t1:=cell_later hSw k2;have t2:=cell_later hSw k3;have t3:=cell_later hSw k4;have t4:=cell_later hSw k5;have t5:=cell_later hSw k6);go_simp;try with_reducible rfl)
     refine hT 7 [[7]] (v:=?_) rfl (by kernel_rfl) (by rfl) (by assumption) ?_ ?_
     rotate_left
     focus (intro w hSw;(try dsimp only at hSw);(have t0:=cell_later hSw k1;have t1:=cell_later hSw k2;have t2:=cell_later hSw k3;have t3:=cell_later hSw k4;have t4:=cell_later hSw k5;have t5:=cell_later hSw k6);go_simp;try with_reducible rfl)
     refine hT 12 [[12]] (v:=?_) rfl (by kernel_rfl) (by rfl) (by assumption) ?_ ?_
     rotate_left
     focus (intro w hSw;(try dsimp only at hSw);(have t0:=cell_later hSw k1;have t1:=cell_later hSw k2;have t2:=cell_later hSw k3;have t3:=cell_later hSw k4;have t4:=cell_later hSw k5;have t5:=cell_later hSw k6);go_simp;try with_reducible rfl)
     try simp only [Act.put,List.setIfInBounds_toArray,List.set_cons_zero,List.set_cons_succ]
     refine hR [1,8] (by kernel_rfl) (by simp) (Ac.cons rfl (fun KH hKH=> ?_) (Ac.cons rfl (fun KH hKH=> ?_) .nil))
     ·go_simp
      first | (have hx5:Below wc.heap.size wc wc.drew:=hHeld;have c5:=H5.out wc (Below.refl _ _)) | have c5:=H5.out _ hHeld
      refine hKH.out _ _ ?_ (fun hNew=> ?_)
      ·(first | exact(Below.refl _ _).drew | exact hHeld.trans (b4.mono hHeld.size) | exact hHeld.trans (b3.mono hHeld.size) | exact hHeld.alloc hHeld.size _ | exact hHeld)
      clear hKH KH hHeld
      have hHeld:=hNew
      clear hNew
      try simp only [Act.put,List.setIfInBounds_toArray,List.set_cons_zero,List.set_cons_succ]
      refine hP 4 (v:=?_) rfl (by kernel_rfl) (by rfl) ?_ ?_
      rotate_left
      focus (intro w;go_simp;try with_reducible rfl)
      try simp only [Act.put,List.setIfInBounds_toArray,List.set_cons_zero,List.set_cons_succ]
      refine hR [5,8] (by kernel_rfl) (by simp) (Ac.cons rfl (fun KH hKH=> ?_) (Ac.cons rfl (fun KH hKH=> ?_) .nil))
      ·go_simp
       refine hKH.out _ _ ?_ (fun hNew=> ?_)
       ·(first | exact(Below.refl _ _).drew | exact hHeld.trans (b4.mono hHeld.size) | exact hHeld.trans (b3.mono hHeld.size) | exact hHeld.alloc hHeld.size _ | exact hHeld)
       clear hKH KH hHeld
       have hHeld:=hNew
       clear hNew
       try simp only [Act.put,List.setIfInBounds_toArray,List.set_cons_zero,List.set_cons_succ]
       refine hR [8] (by kernel_rfl) (by simp) (Ac.cons rfl (fun KH hKH=> ?_) .nil)
       go_simp
       (go_at_call 140;refine(HT.out _ hHeld).mono ?_;rintro e w3 ⟨rfl,b3⟩)
       try replace c5:=cell_later b3 c5
       try go_wp2_with fail
       refine hKH.out _ _ ?_ (fun hNew=> ?_)
       ·(first | exact(Below.refl _ _).drew | exact hHeld.trans (b4.mono hHeld.size) | exact hHeld.trans (b3.mono hHeld.size) | exact hHeld.alloc hHeld.size _ | exact hHeld)
       clear hKH KH hHeld
       have hHeld:=hNew
       clear hNew
       try simp only [Act.put,List.setIfInBounds_toArray,List.set_cons_zero,List.set_cons_succ]
       refine hP 9 (v:=?_) rfl (by kernel_rfl) (by rfl) ?_ ?_
       rotate_left
       focus (intro w;go_simp;try with_reducible rfl)
       refine hP 10 (v:=?_) rfl (by kernel_rfl) (by rfl) ?_ ?_
       rotate_left
       focus (intro w;go_simp;try with_reducible rfl)
       try simp only [Act.put,List.setIfInBounds_toArray,List.set_cons_zero,List.set_cons_succ]
       refine hR [13] (by kernel_rfl) (by simp) (Ac.cons rfl (fun KH hKH=> ?_) .nil)
       go_simp
       (go_at_call 141;refine(HQ.out _ hHeld).mono ?_;rintro e w4 ⟨rfl,b4⟩)
       try replace c5:=cell_later b4 c5
       try go_wp2_with fail
       refine hKH.out _ _ ?_ (fun hNew=> ?_)
       ·(first | exact(Below.refl _ _).drew | exact hHeld.trans (b4.mono hHeld.size) | exact hHeld.trans (b3.mono hHeld.size) | exact hHeld.alloc hHeld.size _ | exact hHeld)
       clear hKH KH hHeld
       have hHeld:=hNew
       clear hNew
       try simp only [Act.put,List.setIfInBounds_toArray,List.set_cons_zero,List.set_cons_succ]
       refine hP 14 (v:=?_) rfl (by kernel_rfl) (by rfl) ?_ ?_
       rotate_left
       focus (intro w;go_simp;try with_reducible rfl)
       refine hP 15 (v:=?_) rfl (by kernel_rfl) (by rfl) ?_ ?_
       rotate_left
       focus (intro w;go_simp;try with_reducible rfl)
       refine hP 16 (v:=?_) rfl (by kernel_rfl) (by rfl) ?_ ?_
       rotate_left
       focus (intro w;go_simp;try with_reducible rfl)
       try simp only [Act.put,List.setIfInBounds_toArray,List.set_cons_zero,List.set_cons_succ]
       refine hR [17] (by kernel_rfl) (by simp) (Ac.Bb rfl (by kernel_rfl) (fun KH hKH=> ?_) .nil)
       have HBX:=Aa hHeld
       go_simp
       refine hKH.out _ _ ?_
       clear hKH KH
       try clear hHeld
       refine Ak (by kernel_rfl) ?_ _
       refine NoPanic.normal ?_
       go_wp2
       go_meet
       exact⟨by rw [←HE.out],HBX⟩
      ·go_simp
       (go_at_call 140;refine(HT.out _ hHeld).mono ?_;rintro e w3 ⟨rfl,b3⟩)
       try replace c5:=cell_later b3 c5
       try go_wp2_with fail
       refine hKH.out _ _ ?_ (fun hNew=> ?_)
       ·(first | exact(Below.refl _ _).drew | exact hHeld.trans (b4.mono hHeld.size) | exact hHeld.trans (b3.mono hHeld.size) | exact hHeld.alloc hHeld.size _ | exact hHeld)
       clear hKH KH hHeld
       have hHeld:=hNew
       clear hNew
       refine hR [5,13] (by kernel_rfl) (by simp) (Ac.cons rfl (fun KH hKH=> ?_) (Ac.cons rfl (fun KH hKH=> ?_) .nil))
       ·go_simp
        refine hKH.out _ _ ?_ (fun hNew=> ?_)
        ·(first | exact(Below.refl _ _).drew | exact hHeld.trans (b4.mono hHeld.size) | exact hHeld.trans (b3.mono hHeld.size) | exact hHeld.alloc hHeld.size _ | exact hHeld)
        clear hKH KH hHeld
        have hHeld:=hNew
        clear hNew
        try simp only [Act.put,List.setIfInBounds_toArray,List.set_cons_zero,List.set_cons_succ]
        refine hP 9 (v:=?_) rfl (by kernel_rfl) (by rfl) ?_ ?_
        rotate_left
        focus (intro w;go_simp;try with_reducible rfl)
        refine hP 10 (v:=?_) rfl (by kernel_rfl) (by rfl) ?_ ?_
        rotate_left
        focus (intro w;go_simp;try with_reducible rfl)
        try simp only [Act.put,List.setIfInBounds_toArray,List.set_cons_zero,List.set_cons_succ]
        refine hR [13] (by kernel_rfl) (by simp) (Ac.cons rfl (fun KH hKH=> ?_) .nil)
        go_simp
        (go_at_call 141;refine(HQ.out _ hHeld).mono ?_;rintro e w4 ⟨rfl,b4⟩)
        try replace c5:=cell_later b4 c5
        try go_wp2_with fail
        refine hKH.out _ _ ?_ (fun hNew=> ?_)
        ·(first | exact(Below.refl _ _).drew | exact hHeld.trans (b4.mono hHeld.size) | exact hHeld.trans (b3.mono hHeld.size) | exact hHeld.alloc hHeld.size _ | exact hHeld)
        clear hKH KH hHeld
        have hHeld:=hNew
        clear hNew
        try simp only [Act.put,List.setIfInBounds_toArray,List.set_cons_zero,List.set_cons_succ]
        refine hP 14 (v:=?_) rfl (by kernel_rfl) (by rfl) ?_ ?_
        rotate_left
        focus (intro w;go_simp;try with_reducible rfl)
        refine hP 15 (v:=?_) rfl (by kernel_rfl) (by rfl) ?_ ?_
        rotate_left
        focus (intro w;go_simp;try with_reducible rfl)
        refine hP 16 (v:=?_) rfl (by kernel_rfl) (by rfl) ?_ ?_
        rotate_left
        focus (intro w;go_simp;try with_reducible rfl)
        try simp only [Act.put,List.setIfInBounds_toArray,List.set_cons_zero,List.set_cons_succ]
        refine hR [17] (by kernel_rfl) (by simp) (Ac.Bb rfl (by kernel_rfl) (fun KH hKH=> ?_) .nil)
        have HBX:=Aa hHeld
        go_simp
        refine hKH.out _ _ ?_
        clear hKH KH
        try clear hHeld
        refine Ak (by kernel_rfl) ?_ _
        refine NoPanic.normal ?_
        go_wp2
        go_meet
        exact⟨by rw [←HE.out],HBX⟩
       ·go_simp
        (go_at_call 141;refine(HQ.out _ hHeld).mono ?_;rintro e w4 ⟨rfl,b4⟩)
        try replace c5:=cell_later b4 c5
        try go_wp2_with fail
        refine hKH.out _ _ ?_ (fun hNew=> ?_)
        ·(first | exact(Below.refl _ _).drew | exact hHeld.trans (b4.mono hHeld.size) | exact hHeld.trans (b3.mono hHeld.size) | exact hHeld.alloc hHeld.size _ | exact hHeld)
        clear hKH KH hHeld
        have hHeld:=hNew
        clear hNew
        try simp only [Act.put,List.setIfInBounds_toArray,List.set_cons_zero,List.set_cons_succ]
        refine hR [5] (by kernel_rfl) (by simp) (Ac.cons rfl (fun KH hKH=> ?_) .nil)
        go_simp
        refine hKH.out _ _ ?_ (fun hNew=> ?_)
        ·(first | exact(Below.refl _ _).drew | exact hHeld.trans (b4.mono hHeld.size) | exact hHeld.trans (b3.mono hHeld.size) | exact hHeld.alloc hHeld.size _ | exact hHeld)
        clear hKH KH hHeld
        have hHeld:=hNew
        clear hNew
        try simp only [Act.put,List.setIfInBounds_toArray,List.set_cons_zero,List.set_cons_succ]
        refine hP 9 (v:=?_) rfl (by kernel_rfl) (by rfl) ?_ ?_
        rotate_left
        focus (intro w;go_simp;try with_reducible rfl)
        refine hP 10 (v:=?_) rfl (by kernel_rfl) (by rfl) ?_ ?_
        rotate_left
        focus (intro w;go_simp;try with_reducible rfl)
        refine hP 14 (v:=?_) rfl (by kernel_rfl) (by rfl) ?_ ?_
        rotate_left
        focus (intro w;go_simp;try with_reducible rfl)
        refine hP 15 (v:=?_) rfl (by kernel_rfl) (by rfl) ?_ ?_
        rotate_left
        focus (intro w;go_simp;try with_reducible rfl)
        refine hP 16 (v:=?_) rfl (by kernel_rfl) (by rfl) ?_ ?_
        rotate_left
        focus (intro w;go_simp;try with_reducible rfl)
        try simp only [Act.put,List.setIfInBounds_toArray,List.set_cons_zero,List.set_cons_succ]
        refine hR [17] (by kernel_rfl) (by simp) (Ac.Bb rfl (by kernel_rfl) (fun KH hKH=> ?_) .nil)
        have HBX:=Aa hHeld
        go_simp
        refine hKH.out _ _ ?_
        clear hKH KH
        try clear hHeld
        refine Ak (by kernel_rfl) ?_ _
        refine NoPanic.normal ?_
        go_wp2
        go_meet
        exact⟨by rw [←HE.out],HBX⟩
     ·go_simp
      (go_at_call 140;refine(HT.out _ hHeld).mono ?_;rintro e w3 ⟨rfl,b3⟩)
      try replace c5:=cell_later b3 c5
      try go_wp2_with fail
      refine hKH.out _ _ ?_ (fun hNew=> ?_)
      ·(first | exact(Below.refl _ _).drew | exact hHeld.trans (b4.mono hHeld.size) | exact hHeld.trans (b3.mono hHeld.size) | exact hHeld.alloc hHeld.size _ | exact hHeld)
      clear hKH KH hHeld
      have hHeld:=hNew
      clear hNew
      refine hR [1,13] (by kernel_rfl) (by simp) (Ac.cons rfl (fun KH hKH=> ?_) (Ac.cons rfl (fun KH hKH=> ?_) .nil))
      ·go_simp
       first | (have hx5:Below wc.heap.size wc wc.drew:=hHeld;have c5:=H5.out wc (Below.refl _ _)) | have c5:=H5.out _ hHeld
       refine hKH.out _ _ ?_ (fun hNew=> ?_)
       ·(first | exact(Below.refl _ _).drew | exact hHeld.trans (b4.mono hHeld.size) | exact hHeld.trans (b3.mono hHeld.size) | exact hHeld.alloc hHeld.size _ | exact hHeld)
       clear hKH KH hHeld
       have hHeld:=hNew
       clear hNew
       try simp only [Act.put,List.setIfInBounds_toArray,List.set_cons_zero,List.set_cons_succ]
       refine hP 4 (v:=?_) rfl (by kernel_rfl) (by rfl) ?_ ?_
       rotate_left
       focus (intro w;go_simp;try with_reducible rfl)
       try simp only [Act.put,List.setIfInBounds_toArray,List.set_cons_zero,List.set_cons_succ]
       refine hR [5,13] (by kernel_rfl) (by simp) (Ac.cons rfl (fun KH hKH=> ?_) (Ac.cons rfl (fun KH hKH=> ?_) .nil))
       ·go_simp
        refine hKH.out _ _ ?_ (fun hNew=> ?_)
        ·(first | exact(Below.refl _ _).drew | exact hHeld.trans (b4.mono hHeld.size) | exact hHeld.trans (b3.mono hHeld.size) | exact hHeld.alloc hHeld.size _ | exact hHeld)
        clear hKH KH hHeld
        have hHeld:=hNew
        clear hNew
        try simp only [Act.put,List.setIfInBounds_toArray,List.set_cons_zero,List.set_cons_succ]
        refine hP 9 (v:=?_) rfl (by kernel_rfl) (by rfl) ?_ ?_
        rotate_left
        focus (intro w;go_simp;try with_reducible rfl)
        refine hP 10 (v:=?_) rfl (by kernel_rfl) (by rfl) ?_ ?_
        rotate_left
        focus (intro w;go_simp;try with_reducible rfl)
        try simp only [Act.put,List.setIfInBounds_toArray,List.set_cons_zero,List.set_cons_succ]
        refine hR [13] (by kernel_rfl) (by simp) (Ac.cons rfl (fun KH hKH=> ?_) .nil)
        go_simp
        (go_at_call 141;refine(HQ.out _ hHeld).mono ?_;rintro e w4 ⟨rfl,b4⟩)
        try replace c5:=cell_later b4 c5
        try go_wp2_with fail
        refine hKH.out _ _ ?_ (fun hNew=> ?_)
        ·(first | exact(Below.refl _ _).drew | exact hHeld.trans (b4.mono hHeld.size) | exact hHeld.trans (b3.mono hHeld.size) | exact hHeld.alloc hHeld.size _ | exact hHeld)
        clear hKH KH hHeld
        have hHeld:=hNew
        clear hNew
        try simp only [Act.put,List.setIfInBounds_toArray,List.set_cons_zero,List.set_cons_succ]
        refine hP 14 (v:=?_) rfl (by kernel_rfl) (by rfl) ?_ ?_
        rotate_left
        focus (intro w;go_simp;try with_reducible rfl)
        refine hP 15 (v:=?_) rfl (by kernel_rfl) (by rfl) ?_ ?_
        rotate_left
        focus (intro w;go_simp;try with_reducible rfl)
        refine hP 16 (v:=?_) rfl (by kernel_rfl) (by rfl) ?_ ?_
        rotate_left
        focus (intro w;go_simp;try with_reducible rfl)
        try simp only [Act.put,List.setIfInBounds_toArray,List.set_cons_zero,List.set_cons_succ]
        refine hR [17] (by kernel_rfl) (by simp) (Ac.Bb rfl (by kernel_rfl) (fun KH hKH=> ?_) .nil)
        have HBX:=Aa hHeld
        go_simp
        refine hKH.out _ _ ?_
        clear hKH KH
        try clear hHeld
        refine Ak (by kernel_rfl) ?_ _
        refine NoPanic.normal ?_
        go_wp2
        go_meet
        exact⟨by rw [←HE.out],HBX⟩
       ·go_simp
        (go_at_call 141;refine(HQ.out _ hHeld).mono ?_;rintro e w4 ⟨rfl,b4⟩)
        try replace c5:=cell_later b4 c5
        try go_wp2_with fail
        refine hKH.out _ _ ?_ (fun hNew=> ?_)
        ·(first | exact(Below.refl _ _).drew | exact hHeld.trans (b4.mono hHeld.size) | exact hHeld.trans (b3.mono hHeld.size) | exact hHeld.alloc hHeld.size _ | exact hHeld)
        clear hKH KH hHeld
        have hHeld:=hNew
        clear hNew
        try simp only [Act.put,List.setIfInBounds_toArray,List.set_cons_zero,List.set_cons_succ]
        refine hR [5] (by kernel_rfl) (by simp) (Ac.cons rfl (fun KH hKH=> ?_) .nil)
        go_simp
        refine hKH.out _ _ ?_ (fun hNew=> ?_)
        ·(first | exact(Below.refl _ _).drew | exact hHeld.trans (b4.mono hHeld.size) | exact hHeld.trans (b3.mono hHeld.size) | exact hHeld.alloc hHeld.size _ | exact hHeld)
        clear hKH KH hHeld
        have hHeld:=hNew
        clear hNew
        try simp only [Act.put,List.setIfInBounds_toArray,List.set_cons_zero,List.set_cons_succ]
        refine hP 9 (v:=?_) rfl (by kernel_rfl) (by rfl) ?_ ?_
        rotate_left
        focus (intro w;go_simp;try with_reducible rfl)
        refine hP 10 (v:=?_) rfl (by kernel_rfl) (by rfl) ?_ ?_
        rotate_left
        focus (intro w;go_simp;try with_reducible rfl)
        refine hP 14 (v:=?_) rfl (by kernel_rfl) (by rfl) ?_ ?_
        rotate_left
        focus (intro w;go_simp;try with_reducible rfl)
        refine hP 15 (v:=?_) rfl (by kernel_rfl) (by rfl) ?_ ?_
        rotate_left
        focus (intro w;go_simp;try with_reducible rfl)
        refine hP 16 (v:=?_) rfl (by kernel_rfl) (by rfl) ?_ ?_
        rotate_left
        focus (intro w;go_simp;try with_reducible rfl)
        try simp only [Act.put,List.setIfInBounds_toArray,List.set_cons_zero,List.set_cons_succ]
        refine hR [17] (by kernel_rfl) (by simp) (Ac.Bb rfl (by kernel_rfl) (fun KH hKH=> ?_) .nil)
        have HBX:=Aa hHeld
        go_simp
        refine hKH.out _ _ ?_
        clear hKH KH
        try clear hHeld
        refine Ak (by kernel_rfl) ?_ _
        refine NoPanic.normal ?_
        go_wp2
        go_meet
        exact⟨by rw [←HE.out],HBX⟩
      ·go_simp
       (go_at_call 141;refine(HQ.out _ hHeld).mono ?_;rintro e w4 ⟨rfl,b4⟩)
       try replace c5:=cell_later b4 c5
       try go_wp2_with fail
       refine hKH.out _ _ ?_ (fun hNew=> ?_)
       ·(first | exact(Below.refl _ _).drew | exact hHeld.trans (b4.mono hHeld.size) | exact hHeld.trans (b3.mono hHeld.size) | exact hHeld.alloc hHeld.size _ | exact hHeld)
       clear hKH KH hHeld
       have hHeld:=hNew
       clear hNew
       try simp only [Act.put,List.setIfInBounds_toArray,List.set_cons_zero,List.set_cons_succ]
       refine hR [1] (by kernel_rfl) (by simp) (Ac.cons rfl (fun KH hKH=> ?_) .nil)
       go_simp
       first | (have hx5:Below wc.heap.size wc wc.drew:=hHeld;have c5:=H5.out wc (Below.refl _ _)) | have c5:=H5.out _ hHeld
       refine hKH.out _ _ ?_ (fun hNew=> ?_)
       ·(first | exact(Below.refl _ _).drew | exact hHeld.trans (b4.mono hHeld.size) | exact hHeld.trans (b3.mono hHeld.size) | exact hHeld.alloc hHeld.size _ | exact hHeld)
       clear hKH KH hHeld
       have hHeld:=hNew
       clear hNew
       try simp only [Act.put,List.setIfInBounds_toArray,List.set_cons_zero,List.set_cons_succ]
       refine hP 4 (v:=?_) rfl (by kernel_rfl) (by rfl) ?_ ?_
       rotate_left
       focus (intro w;go_simp;try with_reducible rfl)
       try simp only [Act.put,List.setIfInBounds_toArray,List.set_cons_zero,List.set_cons_succ]
       refine hR [5] (by kernel_rfl) (by simp) (Ac.cons rfl (fun KH hKH=> ?_) .nil)
       go_simp
       refine hKH.out _ _ ?_ (fun hNew=> ?_)
       ·(first | exact(Below.refl _ _).drew | exact hHeld.trans (b4.mono hHeld.size) | exact hHeld.trans (b3.mono hHeld.size) | exact hHeld.alloc hHeld.size _ | exact hHeld)
       clear hKH KH hHeld
       have hHeld:=hNew
       clear hNew
       try simp only [Act.put,List.setIfInBounds_toArray,List.set_cons_zero,List.set_cons_succ]
       refine hP 9 (v:=?_) rfl (by kernel_rfl) (by rfl) ?_ ?_
       rotate_left
       focus (intro w;go_simp;try with_reducible rfl)
       refine hP 10 (v:=?_) rfl (by kernel_rfl) (by rfl) ?_ ?_
       rotate_left
       focus (intro w;go_simp;try with_reducible rfl)
       refine hP 14 (v:=?_) rfl (by kernel_rfl) (by rfl) ?_ ?_
       rotate_left
       focus (intro w;go_simp;try with_reducible rfl)
       refine hP 15 (v:=?_) rfl (by kernel_rfl) (by rfl) ?_ ?_
       rotate_left
       focus (intro w;go_simp;try with_reducible rfl)
       refine hP 16 (v:=?_) rfl (by kernel_rfl) (by rfl) ?_ ?_
       rotate_left
       focus (intro w;go_simp;try with_reducible rfl)
       try simp only [Act.put,List.setIfInBounds_toArray,List.set_cons_zero,List.set_cons_succ]
       refine hR [17] (by kernel_rfl) (by simp) (Ac.Bb rfl (by kernel_rfl) (fun KH hKH=> ?_) .nil)
       have HBX:=Aa hHeld
       go_simp
       refine hKH.out _ _ ?_
       clear hKH KH
       try clear hHeld
       refine Ak (by kernel_rfl) ?_ _
       refine NoPanic.normal ?_
       go_wp2
       go_meet
       exact⟨by rw [←HE.out],HBX⟩
   case rest=>
   obtain⟨rfl,HBD⟩:=hcut
   have HB3:=Aa (HB2.out.trans (HBD.out.mono HB2.out.size))
   obtain⟨ck1,ck2,ck3⟩:=HKO.out
   obtain⟨cv1,cv2,cv3⟩:=HVO.out
   have HTK:=Aa fun w' (hb:Below wc.heap.size wc w')=> Vf d r.key.k r.key.n r.key.s r.key.a r.key.ao r.key.cap w' true r.each (HG.out.later (HB3.out.trans (hb.mono HB3.out.size)) (Nat.le_refl _)) (HRA.out w' (HB3.out.trans (hb.mono HB3.out.size))).key ck3 (Nat.le_trans ck1 (by decide))
   have HTV:=Aa fun w' (hb:Below wc.heap.size wc w')=> Vf d r.val.k r.val.n r.val.s r.val.a r.val.ao r.val.cap w' false r.each (HG.out.later (HB3.out.trans (hb.mono HB3.out.size)) (Nat.le_refl _)) (HRA.out w' (HB3.out.trans (hb.mono HB3.out.size))).val cv3 (Nat.le_trans cv1 (by decide))
   have HE:Hid (tx (P1++Ea r.v)++(((((⟨#[107,101,121,32]⟩++tx (Az (.mk r.key.k r.key.n r.key.s r.key.a)))++⟨#[32,118,97,108,32]⟩)++tx (Az (.mk r.val.k r.val.n r.val.s r.val.a)))++⟨#[10]⟩))=tx (HD++10::F8 (RV.take (j+1)))):=by
    show _=_
    rw [←HFIN.out]
    apply Dc
    rw [tl,tl,Ap]
    simp [tx,ByteArray.data_append,Gy.tree]
   have z2':(tx (Az (.mk r.key.k r.key.n r.key.s r.key.a))).size≤3030:=by rw [Am];exact z2
   have z3':(tx (Az (.mk r.val.k r.val.n r.val.s r.val.a))).size≤3030:=by rw [Am];exact z3
   clear ck1 ck2 ck3 cv1 cv2 cv3
   generalize tx (Az (.mk r.key.k r.key.n r.key.s r.key.a))=T0 at *
   generalize tx (Az (.mk r.val.k r.val.n r.val.s r.val.a))=Q0 at *
   generalize tx (P1++Ea r.v)=S1 at *
   have n1:¬ 9223372036854775807 < 4+T0.size:=by omega
   have n2:¬ 9223372036854775807 < 4+T0.size+5:=by omega
   have n3:¬ 9223372036854775807 < 4+T0.size+5+Q0.size:=by omega
   have n4:¬ 9223372036854775807 < 4+T0.size+5+Q0.size+1:=by omega
   have n5:¬ 9223372036854775807 < S1.size+(4+T0.size+5+Q0.size+1):=by omega
   have u7:=cell_regrown (cell_later HBD.out k7)
   have u8:=cell_regrown (cell_later HBD.out k8)
   have u9:=cell_regrown (cell_later HBD.out k9)
   have u10:=cell_regrown (cell_later HBD.out k10)
   have u11:=cell_regrown (cell_later HBD.out k11)
   have u12:=cell_regrown (cell_later HBD.out k12)
   have u13:=cell_regrown (cell_later HBD.out k13)
   have u14:=cell_regrown (cell_later HBD.out k14)
   clear k0 k1 k2 k3 k4 k5 k6 k7 k8 k9 k10 k11 k12 k13 k14
   go_upto_region 15 with (fail)
   refine wp_region_quiet_below (by kernel_rfl) (by kernel_rfl) ?_
   repeat (go_big_quiet_step (first
    | (go_at_call_of 140 (Value.agg #[Value.int IntKind.i64 r.key.k,Value.int IntKind.i64 r.key.n,Value.string r.key.s,Value.slice r.key.ao r.key.a.length r.key.cap]);exact Calls.regrown_of (HTK.out _ (below_regrown _ _ _)))
    | (go_at_call_of 140 (Value.agg #[Value.int IntKind.i64 r.val.k,Value.int IntKind.i64 r.val.n,Value.string r.val.s,Value.slice r.val.ao r.val.a.length r.val.cap]);exact Calls.regrown_of (HTV.out _ (below_regrown _ _ _)))))
   refine wpQuiet_nil ?_
   intro _ hw'
   obtain⟨⟨dq,osq⟩,hw''⟩:=hw'
   subst hw''
   have HB4:=Aa (HB3.out.trans ((below_regrown wc dq osq).mono HB3.out.size))
   clear u7 u8 u9 u10 u11 u12 u13 u14 HTK HTV
   go_wp2
   go_roundw
   case rel=> exact⟨j+1,by omega,by go_num,by rw [←HE.out],HB4⟩
   case measure=> (simp [intOf];try omega)
  ·obtain rfl:j=rs.length:=by omega
   have hS0:=HSZ.out rs.length (by rw [HLN.out];omega)
   have HT:Hid (HD++10::F8 (RV.take rs.length)=Ke RV m slices early):=by
    show _=_
    rw [List.take_of_length_le (by rw [HLN.out];omega),HHD.out];rfl
   rw [HT.out] at hS0 ⊢
   have e1:decide ((rs.length:Int) < (rs.length:Int))=false:=by simp
   by_cases h8:800 < (tx (Ke RV m slices early)).size
   ·have HO:Hid (Gl RV m slices early=([],2)):=by
     rw [Am] at h8
     show _=_
     unfold Gl
     rw [if_neg (by rw [HJF.out];simp),if_pos h8]
    go_wp2
    go_ret2
    exact⟨by rw [HO.out];rfl,HB.out⟩
   ·have HO:Hid (Gl RV m slices early=(Ke RV m slices early,0)):=by
     rw [Am] at h8
     show _=_
     unfold Gl
     rw [if_neg (by rw [HJF.out];simp),if_neg h8]
    go_wp2
    go_ret2
    exact⟨by rw [HO.out];rfl,HB.out⟩
end Go.Proofs.YtbibeionenjmfaaGreatDoor
