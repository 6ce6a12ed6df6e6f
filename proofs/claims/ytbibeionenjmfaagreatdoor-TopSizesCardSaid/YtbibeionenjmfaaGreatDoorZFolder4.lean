/- folder: Load of what was saved. -/
import Derived.Test.YtbibeionenjmfaaGreatDoorZFolder
import Derived.Test.YtbibeionenjmfaaGreatDoorZMerge
set_option linter.unusedSimpArgs false
set_option linter.unusedVariables false
namespace Go.Proofs.YtbibeionenjmfaaGreatDoor
open Go.RowKit
theorem M6:∀ (l:List Pr),(∀ p∈l,p.1.size≤60∧ -9223372036854775808≤p.2∧p.2≤9223372036854775807)→(Ct l).length≤103 * l.length
 | [],_=> Nat.le_refl _
 | p::l,h=> by
   have h1:=h p List.mem_cons_self
   have h3:=M6 l fun x hx=> h x (List.mem_cons_of_mem _ hx)
   have h4:(Lib.itoa (p.1.size:Int)).length≤20:=C4 (by omega) (by omega)
   have h5:(Lib.itoa p.2).length≤20:=C4 h1.2.1 h1.2.2
   rw [show Ct (p::l)=Im p++Ct l from rfl,List.length_append,List.length_cons]
   unfold Im
   simp only [List.length_append,List.length_cons,List.length_nil,Fw]
   omega
end Go.Proofs.YtbibeionenjmfaaGreatDoor
namespace Go.Proofs.YtbibeionenjmfaaGreatDoor
open Go.RowKit
def Yl (S:List UInt8):Int:=if (Co S).isSome=true then 0 else 4
def Xg (S:List UInt8):List Pr:=(Co S).getD []
theorem Agr (s:ByteArray) (w:World) (hg:GW w) (hs:s.size≤10000000):
 Calls Tryz.prog 115 #[.string s] w fun e w'=> (∃ ao cap,e= .returned (.tuple #[.slice ao (Xg s.data.toList).length cap,Du (Yl s.data.toList)])∧Own 2 Bt 202 w' w.heap.size (.slice ao (Xg s.data.toList).length cap) (Xg s.data.toList))∧Below w.heap.size w w':=by
 refine(Ags s w hg hs).mono ?_
 rintro e w' ⟨⟨v,rfl,ho⟩,hb⟩
 obtain⟨⟨ao,cap,rfl⟩,_⟩:=id ho
 refine⟨⟨ao,cap,?_,ho⟩,hb⟩
 unfold Yl Xg
 cases Co s.data.toList <;> rfl
theorem Akt {S:List UInt8} {l:List Pr} (h:Co S=some l):Xg S=l∧Yl S=0:=by
 unfold Xg Yl;rw [h];exact⟨rfl,rfl⟩
end Go.Proofs.YtbibeionenjmfaaGreatDoor
namespace Go.Proofs.YtbibeionenjmfaaGreatDoor
open Go.RowKit
theorem Ae8 (n:Nat) (hn:n≤1000000):Ci (Lib.itoa (n:Int))=n∧Mg (Lib.itoa (n:Int))=true:=by
 unfold Ci Mg
 rw [Wl (by omega) (by omega)]
 exact⟨rfl,rfl⟩
theorem V9 (n:Nat) (w:World) (hg:GW w) (hn:n≤1000000):
 Calls Tryz.prog 114 #[.string (tx (Lib.itoa (n:Int)))] w fun e w'=> e= .returned (.tuple #[.int .i64 (n:Int), .nilIface])∧Below w.heap.size w w':=by
 have hl:(Lib.itoa (n:Int)).length≤20:=C4 (by omega) (by omega)
 refine(Tb _ w hg (by rw [Am];omega)).mono ?_
 rintro e w' ⟨⟨ev,rfl,h1⟩,hb⟩
 rw [Ap] at h1 ⊢
 rw [(Ae8 n hn).1]
 rw [(Ae8 n hn).2] at h1
 rcases h1 with ⟨_,rfl⟩ | ⟨h,_⟩
 ·exact⟨rfl,hb⟩
 ·cases h
theorem Te (O:List Pr) (w:World) (hg:GW w) (hok:Nv O) (hs:(Ct O).length≤10000000):
 Calls Tryz.prog 115 #[.string (tx (Ct O))] w fun e w'=> (∃ ao cap,e= .returned (.tuple #[.slice ao O.length cap, .nilIface])∧Own 2 Bt 202 w' w.heap.size (.slice ao O.length cap) O)∧Below w.heap.size w w':=by
 have h:=Agr (tx (Ct O)) w hg (by rw [Am];exact hs)
 have hp:=Akt (Uz O fun p hp=> ⟨by have:=(hok.2 p hp).1;omega,(hok.2 p hp).2⟩)
 rw [Ap,hp.1,hp.2,A3] at h
 exact h
end Go.Proofs.YtbibeionenjmfaaGreatDoor
namespace Go.Proofs.YtbibeionenjmfaaGreatDoor
open Go.RowKit
set_option maxHeartbeats 1000000 in
theorem Al4 (kind:Int) (ao:Option Addr) (cap:Nat) (rs:List Qe) (w:World) (hk:Ek kind=0) (hl:rs.length≤100000) (htot:(Cz rs).flatten.length≤100000000) (hr:∀ l∈Cz rs,Bl l) (hs:Sl 1 Kb w ao rs) (hrow:∀ r∈rs,Sl 2 Bt w r.1 r.2.2):
 Calls Tryz.prog 73 #[.int .i64 kind, .slice ao rs.length cap] w fun e w'=> (∃ g la lc,e= .returned (.tuple #[.pointer (some ⟨g,0,none⟩), .nilIface])∧Hx w' w.heap.size g kind (Dz (Cz rs).flatten) 0 [] la lc (.slice none 0 0)∧∀ b o,la=some ⟨b,o,none⟩→w.heap.size≤b∧b < w'.heap.size)∧Below w.heap.size w w':=by
 have HX:=Aa (Vx kind w)
 rw [hk,A3] at HX
 have HM:=Aa (Agp ao cap rs w hl htot hr hs hrow)
 generalize Dz (Cz rs).flatten=L at *
 clear hk hl htot hr hs hrow
 go_enter Tryz.func73,Tryz.ntmps73
 go_wp2_with fail
 refine HX.out.mono ?_
 rintro e w1 ⟨rfl,rfl⟩
 clear HX
 go_wp2_with fail
 refine HM.out.mono ?_
 rintro e w2 ⟨v,rfl,o2,b2⟩
 obtain⟨la,lc,rfl⟩:=id o2.1
 have hba:Below w2.heap.size w2 (w2.alloc (.cells #[.int .i64 kind, .slice la L.length lc, .int .i64 0, .slice none 0 0] 208)):=(Below.refl _ _).alloc (Nat.le_refl _) _
 have hRA:Hx (w2.alloc (.cells #[.int .i64 kind, .slice la L.length lc, .int .i64 0, .slice none 0 0] 208)) w.heap.size w2.heap.size kind L 0 [] la lc (.slice none 0 0):=by
  refine⟨Bk.new rfl,b2.size,(o2.sl Bn).later hba (Nat.le_refl _),Own.nil,⟨by simp [Value.ownBlock],?_⟩,Nat.zero_le _⟩
  rintro b off rfl
  have:=(o2.lt b rfl).2
  exact⟨by omega,by simp [Value.ownBlock]⟩
 have HLA:Hid (∀ b o,la=some ⟨b,o,none⟩→w.heap.size≤b∧b < (w2.alloc (.cells #[.int .i64 kind, .slice la L.length lc, .int .i64 0, .slice none 0 0] 208)).heap.size):=by
  rintro b o rfl
  have h1:=o2.lt b rfl
  have h2:=hba.size
  omega
 have HRA:=Aa hRA
 have HB:=Aa (b2.trans (hba.mono b2.size))
 clear HM o2 b2 hba hRA
 go_wp2
 go_ret2
 exact⟨⟨_,_,_,rfl,HRA.out,HLA.out⟩,HB.out⟩
end Go.Proofs.YtbibeionenjmfaaGreatDoor
namespace Go.Proofs.YtbibeionenjmfaaGreatDoor
open Go.RowKit
def Afq (w:World) (g j:Nat):Nat:=match w.cell? ⟨g,j,none⟩ with
 | some (.int _ n)=> n.toNat
 | _=> 0
theorem Abf {w:World} {g j n:Nat} (h:w.cell? ⟨g,j,none⟩=some (.int .i64 (n:Int))):Afq w g j=n:=by
 unfold Afq;rw [h];simp
theorem Aaq {kind:Int} {L:List Pr} {n:Nat} (h:brk kind L n) (hn:n≤L.length):Ae kind L=Ae kind (L.take n)++Ae kind (L.drop n):=by
 conv=> lhs;rw [←List.take_append_drop n L]
 rw [←Yn]
 rcases hd:L.drop n with _ | ⟨p,t⟩
 ·simp [Ae]
  exact Nz kind _
 ·have hp:L[n]?=some p:=by rw [←List.head?_drop,hd];rfl
  unfold Ae
  rw [List.foldl_append]
  have h1:List.foldl (Cn kind) [] (List.foldl (Cn kind) [] (L.take n))=Ae kind (L.take n):=Nz kind _
  rw [h1]
  have h2:=Ju kind (Ae kind (L.take n)) (p::t)
  unfold Ae at h2 ⊢
  rw [h2]
  have key:∀ (t:List Pr) (A S:List Pr) (q:Pr),t.foldl (Cn kind) (A++(S++ [q]))=A++t.foldl (Cn kind) (S++ [q]):=by
   intro t
   induction t with
   | nil=> intro A S q;rfl
   | cons c t ih=>
     intro A S q
     rw [List.foldl_cons,List.foldl_cons]
     by_cases he:q.1=c.1
     ·rw [←List.append_assoc,Cg he,Cg he,List.append_assoc]
      exact ih A S _
     ·rw [←List.append_assoc,Cp he,Cp he,List.append_assoc A S [q],List.append_assoc A]
      exact ih A (S++ [q]) c
  rw [List.foldl_cons,List.foldl_cons]
  have h3:Cn kind (List.foldl (Cn kind) [] (L.take n)) p=List.foldl (Cn kind) [] (L.take n)++ [p]:=Ww fun q hq=> h q p hq hp
  rw [h3,Ei]
  exact key t _ [] p
theorem Amb {kind:Int} {L:List Pr}:brk kind L L.length:=fun q p _ h=> by simp at h
theorem Ajo {kind:Int} {L:List Pr}:brk kind L 0:=fun q p h _=> by simp [Ae] at h
structure Fa (kind:Int) (L:List Pr) (n c:Nat):Prop where
 out:Ae kind (L.take n)=(Ae kind L).take c
 brk:brk kind L n
 over:n=L.length↔(Ae kind L).length≤c
theorem Qp {k:Int} {l:List Pr}:Ae k l= []↔l= []:=by
 constructor
 ·intro h
  rcases Gf l with rfl | ⟨S,q,rfl⟩
  ·rfl
  ·rw [Fk] at h
   rcases Gf (Ae k S) with h2 | ⟨T,r,h2⟩
   ·rw [h2,Ei] at h;cases h
   ·rw [h2] at h
    by_cases he:r.1=q.1
    ·rw [Cg he] at h;simp at h
    ·rw [Cp he] at h;simp at h
 ·rintro rfl;rfl
theorem Fa.zero {kind:Int} {L:List Pr}:Fa kind L 0 0:=by
 refine⟨by simp [Ae],Ajo,?_⟩
 constructor
 ·intro h
  have:L= []:=List.length_eq_zero_iff.1 h.symm
  subst this;simp [Ae]
 ·intro h
  have h2:Ae kind L= []:=List.length_eq_zero_iff.1 (by omega)
  rw [Qp.1 h2];rfl
theorem Fa.next {kind:Int} {L:List Pr} {n n1 c:Nat} {p:Pr} (h:Fa kind L n c) (hn:n < L.length) (hn1:n1≤L.length) (hg:Ae kind (L.take n1)=(Ae kind L).take c++ [p]) (hb:Go.Proofs.YtbibeionenjmfaaGreatDoor.brk kind L n1):Fa kind L n1 (c+1):=by
 have hc:c < (Ae kind L).length:=by
  rcases Nat.lt_or_ge c (Ae kind L).length with h1 | h1
  ·exact h1
  ·have:=h.over.2 h1;omega
 have hr:=Aaq hb hn1
 rw [hg] at hr
 have hl:((Ae kind L).take c).length=c:=by rw [List.length_take];omega
 refine⟨?_,hb,?_⟩
 ·have h5:List.take (c+1) (List.take c (Ae kind L)++ [p]++Ae kind (List.drop n1 L))=List.take c (Ae kind L)++ [p]:=by
   rw [List.take_append_of_le_length (by simp;omega),List.take_of_length_le (by simp;omega)]
  rw [←hr] at h5
  rw [hg,h5]
 ·have h2:=congrArg List.length hr
  rw [List.length_append,List.length_append,hl,List.length_singleton] at h2
  constructor
  ·intro e
   have:Ae kind (L.drop n1)= []:=Qp.2 (by rw [e];simp)
   rw [this] at h2;simp at h2;omega
  ·intro e
   have h3:Ae kind (L.drop n1)= []:=List.length_eq_zero_iff.1 (by omega)
   have h4:=List.drop_eq_nil_iff.1 (Qp.1 h3)
   omega
def Z2 (base g:Nat) (kind:Int) (L:List Pr) (c:Nat) (la:Option Addr) (lc:Nat) (va:Value) (w:World) (e:Ending) (w':World):Prop:=
 ∃ n' va',(e= .returned (.bool (decide (n'=L.length)))∧Hx w' base g kind L n' ((Ae kind L).take c) la lc va'∧Fa kind L n' c∧(∀ q,va'.ownBlock=some q→va.ownBlock=some q∨w.heap.size≤q))∧Ab (fun q=> q=g∨va.ownBlock=some q) w w'
theorem Fa.more {kind:Int} {L:List Pr} {c d:Nat} (h:Fa kind L L.length c) (hd:c≤d):Fa kind L L.length d∧(Ae kind L).take c=(Ae kind L).take d:=by
 have h1:=h.over.1 rfl
 have h2:(Ae kind L).take c=(Ae kind L).take d:=by rw [List.take_of_length_le h1,List.take_of_length_le (by omega)]
 exact⟨⟨by rw [h.out,h2],h.brk,⟨fun _=> by omega,fun _=> rfl⟩⟩,h2⟩
theorem step_end {base g:Nat} {kind:Int} {L:List Pr} {n' c:Nat} {la:Option Addr} {lc:Nat} {va va':Value} {w wr:World} {b:Bool} (hb:decide (n'=L.length)=b) (h1:Hx wr base g kind L n' ((Ae kind L).take c) la lc va') (h2:Fa kind L n' c) (h3:∀ q,va'.ownBlock=some q→va.ownBlock=some q∨w.heap.size≤q) (h4:Ab (fun q=> q=g∨va.ownBlock=some q) w wr) (nq:Nat):
 Z2 base g kind L c la lc va w (.returned (.bool b)) (wr.drewN nq):=by
 subst hb
 exact⟨n',va',⟨rfl,h1.later (below_drewN (Below.refl _ _) _),h2,h3⟩,h4.drewN nq⟩
theorem Vb {base g b off:Nat} {kind:Int} {L:List Pr} {n1:Nat} {lc oc:Nat} {oa:Option Addr} {out:List Pr} {p:Pr} {va v':Value} {w W w1:World} (hlo:base≤g) (hn:n1≤L.length) (hbw:b < W.heap.size)
 (hbk:Bk W g [.int .i64 kind, .slice (some ⟨b,off,none⟩) L.length lc, .int .i64 n1, .slice oa out.length oc])
 (hsl:Sl 2 Bt W (some ⟨b,off,none⟩) L)
 (hap:(Value.slice oa out.length oc).ownBlock≠some g∧∀ c o,(some ⟨b,off,none⟩:Option Addr)=some ⟨c,o,none⟩→c≠g∧(Value.slice oa out.length oc).ownBlock≠some c)
 (hv:∀ q,(Value.slice oa out.length oc).ownBlock=some q→va.ownBlock=some q∨w.heap.size≤q)
 (hkp:Ab (fun q=> q=g∨va.ownBlock=some q) w W)
 (ho:Own 2 Bt 202 w1 base v' (out++ [p])) (hg:W.grownBy w1 (Value.slice oa out.length oc).ownBlock) (hat:v'.ownBlock=(Value.slice oa out.length oc).ownBlock∨v'.ownBlock=some W.heap.size):
 Hx (w1.setCell ⟨g,3,none⟩ v') base g kind L n1 (out++ [p]) (some ⟨b,off,none⟩) lc v'∧(∀ q,v'.ownBlock=some q→va.ownBlock=some q∨w.heap.size≤q)∧Ab (fun q=> q=g∨va.ownBlock=some q) w (w1.setCell ⟨g,3,none⟩ v')∧w1.frozen? ⟨g,3,none⟩=false∧w1.cell? ⟨g,3,none⟩=some (.slice oa out.length oc):=by
 have hK:Ab (fun q=> (Value.slice oa out.length oc).ownBlock=some q) W w1:=(Ab.refl _ W).Yo hg fun k e=> .inl e
 have hbk1:=hbk.kept hK hap.1
 have hgw:=hbk.lt
 have hws:=hkp.size
 have hbg:=(hap.2 b off rfl).1
 have hbo:=(hap.2 b off rfl).2
 have hv'g:v'.ownBlock≠some g:=by
  intro e
  rcases hat with h | h
  ·rw [h] at e;exact hap.1 e
  ·rw [h] at e;have:=Option.some.inj e;omega
 have hv'b:v'.ownBlock≠some b:=by
  intro e
  rcases hat with h | h
  ·rw [h] at e;exact hbo e
  ·rw [h] at e;have:=Option.some.inj e;omega
 have hsl1:Sl 2 Bt w1 (some ⟨b,off,none⟩) L:=hsl.kept hK fun c o e=> by cases e;exact hbo
 refine⟨⟨hbk1.set (k:=3) (u:= .slice oa out.length oc) _ rfl,hlo,?_,ho.setOther hv'g _,⟨hv'g,?_⟩,hn⟩,?_,?_,hbk1.fz 3,hbk1.get (j:=3) rfl⟩
 ·exact hsl1.kept ((Ab.refl (fun q=> q=g) w1).setCell (p:=⟨g,3,none⟩) rfl _) fun c o e=> by cases e;exact hbg
 ·intro c o e
  cases e
  exact⟨hbg,hv'b⟩
 ·intro q e
  rcases hat with h | h
  ·rw [h] at e;exact hv q e
  ·rw [h] at e;have:=Option.some.inj e;right;omega
 ·refine Ab.setCell ?_ (.inl rfl) _
  exact hkp.Yo hg fun k e=> (hv k e).imp .inr id
set_option maxRecDepth 100000 in
set_option maxHeartbeats 4000000 in
theorem Ajf {base g:Nat} {kind:Int} {L:List Pr} {n c:Nat} {la:Option Addr} {lc:Nat} {va:Value} (many:Int) (w:World) (hbase:base≤w.heap.size) (h:Hx w base g kind L n ((Ae kind L).take c) la lc va) (hst:Fa kind L n c) (hL:L.length≤1000000) (hmany:many≤9223372036854775807):
 Calls Tryz.prog 80 #[.pointer (some ⟨g,0,none⟩), .int .i64 many] w (Z2 base g kind L (c+many.toNat) la lc va w):=by
 obtain⟨i0,hi,hz0,hz1,hz2⟩:=info_parts Ks
 have HRA:=Aa h
 have HST:=Aa hst
 obtain⟨M,hM⟩:∃ M:Nat,max many 0=M:=⟨(max many 0).toNat,by omega⟩
 have hMm:many.toNat=M:=by omega
 have hM2:M≤9223372036854775807:=by omega
 rw [hMm]
 clear h hst hMm
 go_enter Tryz.func80,Tryz.ntmps80
 go_wp2_with fail
 go_loopw [8] (fun i wr=> ∃ (j n':Nat) (va':Value),j≤M∧i= .int .i64 j∧Hid (Hx wr base g kind L n' ((Ae kind L).take (c+j)) la lc va')∧Hid (Fa kind L n' (c+j))∧Hid (∀ q,va'.ownBlock=some q→va.ownBlock=some q∨w.heap.size≤q)∧Ab (fun q=> q=g∨va.ownBlock=some q) w wr) (fun i _=> M - (intOf i).toNat)
 case atStart=> exact⟨0,n,va,by omega,rfl,HRA,HST,(fun q h=> .inl h),Ab.refl _ _⟩
 case round=>
  obtain⟨j,n',va',hj,rfl,HR,HS,HV,hkp⟩:=hrel
  obtain⟨oa,oc,hva⟩:=id HR.out.own.1
  have hout:((Ae kind L).take (c+j)).length≤1000000:=by
   have:=D6 kind L
   rw [List.length_take];omega
  generalize hoo:(Ae kind L).take (c+j)=out at *
  have HOO:=Aa hoo
  clear hoo
  subst hva
  have c0:=HR.out.bk.get (j:=0) rfl
  have c1:=HR.out.bk.get (j:=1) rfl
  have c2:=HR.out.bk.get (j:=2) rfl
  have c3:=HR.out.bk.get (j:=3) rfl
  have hnl:=HR.out.O9
  have HKP:=Aa hkp
  clear hkp
  by_cases hjM:j < M
  ·by_cases hn:n' < L.length
   ·obtain⟨b,off,x,y,rfl,hbw,hlk,d0,d1⟩:=HR.out.sl.pair hn
    have e1:decide (j < M)=true:=by simp;omega
    have e2:((n':Int) ==(L.length:Int))=false:=by rw [beq_eq_false_iff_ne];omega
    have e3:(n' ==L.length)=false:=by rw [beq_eq_false_iff_ne];omega
    have hst:Hid (Ae kind (L.take (n'+1))=out++ [(x,y)]):=by
     show _=_
     rw [Hn hlk,HS.out.out,HOO.out]
     refine Ww fun q hq=> HS.out.brk q _ ?_ hlk
     rw [HS.out.out,HOO.out];exact hq
    have f1:(0:Int)≤(n':Int)∧(n':Int) < (L.length:Int):=by omega
    obtain⟨f1,f2⟩:=f1
    clear hlk
    go_wp2_with fail
    go_quiet (fail)
    have HR2:=Aa (HR.out.later (below_drewN (Below.refl _ _) nq))
    have HKP2:=Aa (HKP.out.drewN nq)
    have d0':=cell_later (below_drewN (Below.refl _ _) nq) d0
    have d1':=cell_later (below_drewN (Below.refl _ _) nq) d1
    have hbw2:b < (wr.drewN nq).heap.size:=by rw [World.heap_drewN];exact hbw
    generalize wr.drewN nq=W2 at *
    clear c0 c1 c2 c3 d0 d1
    have c0:=HR2.out.bk.get (j:=0) rfl
    have c1:=HR2.out.bk.get (j:=1) rfl
    have c2:=HR2.out.bk.get (j:=2) rfl
    have c3:=HR2.out.bk.get (j:=3) rfl
    have z2:=HR2.out.bk.fz 2
    go_upto_region 4 with (fail)
    have hal:Below W2.heap.size W2 (W2.alloc (Obj.cells #[Value.string ⟨#[]⟩,Value.int .i64 0] 202)):=(Below.refl _ _).alloc (Nat.le_refl _) _
    have a1:=cell_later hal c1
    have a2:=cell_later hal c2
    have a3:=cell_later hal d0'
    have a4:=cell_later hal d1'
    clear hal
    go_region
    go_upto_region 5 with (fail)
    have hba:Below W2.heap.size W2 (W2.alloc (.cells #[.string x, .int .i64 y] 202)).drew:=((Below.refl _ _).alloc (Nat.le_refl _) _).drew
    have hBP:Bk (W2.alloc (.cells #[.string x, .int .i64 y] 202)).drew W2.heap.size [.string x, .int .i64 y]:=(Bk.new rfl).later ((Below.refl _ _).drew)
    have HR4:=Aa (HR2.out.later hba)
    have HKP4:=Aa (HKP2.out.trans (Ab.Ai hba (Nat.le_refl _)))
    obtain⟨pb,hpb⟩:∃ pb,W2.heap.size=pb:=⟨_,rfl⟩
    have hgp:g < pb:=by have:=HR2.out.bk.lt;omega
    have hwp:w.heap.size≤pb:=by have:=HKP2.out.size;omega
    have hbp:b < pb:=by omega
    have hvp:∀ q,(Value.slice oa out.length oc).ownBlock=some q→q < pb:=fun q hq=> by have:=(HR2.out.own.lt q hq).2;omega
    rw [hpb] at hBP ⊢
    generalize (W2.alloc (.cells #[.string x, .int .i64 y] 202)).drew=W4 at *
    have HBP:=Aa hBP
    have HVP:=Aa hvp
    clear hba hBP hvp hpb c0 c1 c2 c3 z2 d0' d1' hbw HR2 HKP2
    have c2:=HR4.out.bk.get (j:=2) rfl
    have z2:=HR4.out.bk.fz 2
    have hk5:Ab (fun q=> q=g) W4 (W4.setCell ⟨g,2,none⟩ (.int .i64 ((n':Int)+1))):=(Ab.refl (fun q=> q=g) W4).setCell (p:=⟨g,2,none⟩) rfl _
    have BG:Hid (Bk (W4.setCell ⟨g,2,none⟩ (.int .i64 ((n':Int)+1))) g [.int .i64 kind, .slice (some ⟨b,off,none⟩) L.length lc, .int .i64 ((n':Int)+1), .slice oa out.length oc]):=HR4.out.bk.set (k:=2) (u:= .int .i64 n') _ rfl
    have BP:Hid (Bk (W4.setCell ⟨g,2,none⟩ (.int .i64 ((n':Int)+1))) pb [.string x, .int .i64 y]):=HBP.out.Gx (by show g≠pb;omega) _
    have SL:Hid (Sl 2 Bt (W4.setCell ⟨g,2,none⟩ (.int .i64 ((n':Int)+1))) (some ⟨b,off,none⟩) L):=HR4.out.sl.kept hk5 fun b' off' e=> by cases e;exact(HR4.out.apart.2 b off rfl).1
    have OW:Hid (Own 2 Bt 202 (W4.setCell ⟨g,2,none⟩ (.int .i64 ((n':Int)+1))) base (.slice oa out.length oc) out):=HR4.out.own.setOther HR4.out.apart.1 _
    have KP:Hid (Ab (fun q=> q=g∨va.ownBlock=some q) w (W4.setCell ⟨g,2,none⟩ (.int .i64 ((n':Int)+1)))):=HKP4.out.setCell (.inl rfl) _
    have APT:=Aa HR4.out.apart
    have LO:=Aa HR4.out.lo
    clear hk5
    go_upto_region 6 with (fail)
    generalize W4.setCell ⟨g,2,none⟩ (.int .i64 ((n':Int)+1))=W5 at *
    clear HR4 HKP4 HBP c2 z2 HR HKP HRA
    go_loopw [62] (fun _ wi=> ∃ (n1:Nat) (v:Int),n' < n1∧n1≤L.length∧Hid (Ae kind (L.take n1)=out++ [(x,v)])∧Hid (Bk wi g [.int .i64 kind, .slice (some ⟨b,off,none⟩) L.length lc, .int .i64 n1, .slice oa out.length oc])∧Hid (Bk wi pb [.string x, .int .i64 v])∧Hid (Sl 2 Bt wi (some ⟨b,off,none⟩) L)∧Hid (Own 2 Bt 202 wi base (.slice oa out.length oc) out)∧Hid (Ab (fun q=> q=g∨va.ownBlock=some q) w wi)) (fun _ wi=> L.length - Afq wi g 2)
    case atStart=> exact⟨n'+1,y,by omega,by omega,hst,BG,BP,SL,OW,KP⟩
    case round=>
     clear BG BP SL OW KP hst e1 e2 e3 f1 f2 a1 a2 a3 a4
     obtain⟨n1,v,hn1,hn2,hgs,BG1,BP1,SL1,OW1,KP1⟩:=hrel
     have c0:=BG1.out.get (j:=0) rfl
     have c1:=BG1.out.get (j:=1) rfl
     have c2:=BG1.out.get (j:=2) rfl
     have p0:=BP1.out.get (j:=0) rfl
     have p1:=BP1.out.get (j:=1) rfl
     by_cases hn3:n1 < L.length
     ·obtain⟨b',off',x2,y2,hbe,hbw3,hlk2,d0,d1⟩:=SL1.out.pair hn3
      cases hbe
      have e4:decide (n1 < L.length)=true:=by simpa using hn3
      have f1:(0:Int)≤(n1:Int)∧(n1:Int) < (L.length:Int):=by omega
      obtain⟨f1,f2⟩:=f1
      have HLK:=Aa hlk2
      clear hlk2
      by_cases hk:x2=x
      ·subst hk
       go_wp2_with fail
       go_quiet (fail)
       go_upto_region 7 with (fail)
       have hbd:Below wr.heap.size wr (wr.drewN nq):=below_drewN (Below.refl _ _) nq
       have BG2:=Aa (BG1.out.later hbd)
       have BP2:=Aa (BP1.out.later hbd)
       have SL2:=Aa (SL1.out.later hbd (Nat.le_refl _))
       have OW2:=Aa (OW1.out.later hbd)
       have KP2:=Aa (KP1.out.drewN nq)
       have d1':=cell_later hbd d1
       generalize wr.drewN nq=W6 at *
       clear c0 c1 c2 p0 p1 d0 d1 hbd
       have c0:=BG2.out.get (j:=0) rfl
       have c1:=BG2.out.get (j:=1) rfl
       have c2:=BG2.out.get (j:=2) rfl
       have p1:=BP2.out.get (j:=1) rfl
       have z1:=BP2.out.fz 1
       have hg2:Hid (Ae kind (L.take (n1+1))=out++ [(x2,two kind v y2)]):=by
        show _=_
        rw [Hn HLK.out,hgs.out,Ahg]
       refine Bm 18 (by kernel_rfl) (by kernel_rfl) ?_
       simp only [List.take_succ_cons,List.take_zero,List.drop_succ_cons,List.drop_zero]
       repeat still_step
       still_call ((Af3 _ _ _ _).mono fun e w'' h=> ⟨h.1,h.2.symm⟩)
       repeat still_step
       refine wpStill_nil ?_
       go_upto_region 8 with (fail)
       generalize two kind v y2=v2 at *
       have BG3:Hid (Bk (W6.setCell ⟨pb,1,none⟩ (.int .i64 v2)) g [.int .i64 kind, .slice (some ⟨b,off,none⟩) L.length lc, .int .i64 n1, .slice oa out.length oc]):=BG2.out.Gx (by show pb≠g;omega) _
       have BP3:Hid (Bk (W6.setCell ⟨pb,1,none⟩ (.int .i64 v2)) pb [.string x2, .int .i64 v2]):=BP2.out.set (k:=1) (u:= .int .i64 v) _ rfl
       have SL3:Hid (Sl 2 Bt (W6.setCell ⟨pb,1,none⟩ (.int .i64 v2)) (some ⟨b,off,none⟩) L):=SL2.out.kept ((Ab.refl (fun q=> q=pb) W6).setCell (p:=⟨pb,1,none⟩) rfl _) fun b' off' e=> by cases e;show ¬ b=pb;omega
       have OW3:Hid (Own 2 Bt 202 (W6.setCell ⟨pb,1,none⟩ (.int .i64 v2)) base (.slice oa out.length oc) out):=OW2.out.setOther (fun h=> Nat.lt_irrefl _ (HVP.out pb h)) _
       have KP3:Hid (Ab (fun q=> q=g∨va.ownBlock=some q) w (W6.setCell ⟨pb,1,none⟩ (.int .i64 v2))):=KP2.out.Es hwp _
       clear c0 c1 c2 p1 z1 BG2 BP2 SL2 OW2 KP2
       generalize W6.setCell ⟨pb,1,none⟩ (.int .i64 v2)=W7 at *
       have c2:=BG3.out.get (j:=2) rfl
       have z2:=BG3.out.fz 2
       have BG4:Hid (Bk (W7.setCell ⟨g,2,none⟩ (.int .i64 ((n1:Int)+1))) g [.int .i64 kind, .slice (some ⟨b,off,none⟩) L.length lc, .int .i64 ((n1:Int)+1), .slice oa out.length oc]):=BG3.out.set (k:=2) (u:= .int .i64 n1) _ rfl
       have BP4:Hid (Bk (W7.setCell ⟨g,2,none⟩ (.int .i64 ((n1:Int)+1))) pb [.string x2, .int .i64 v2]):=BP3.out.Gx (by show g≠pb;omega) _
       have SL4:Hid (Sl 2 Bt (W7.setCell ⟨g,2,none⟩ (.int .i64 ((n1:Int)+1))) (some ⟨b,off,none⟩) L):=SL3.out.kept ((Ab.refl (fun q=> q=g) W7).setCell (p:=⟨g,2,none⟩) rfl _) fun b' off' e=> by cases e;exact(APT.out.2 b off rfl).1
       have OW4:Hid (Own 2 Bt 202 (W7.setCell ⟨g,2,none⟩ (.int .i64 ((n1:Int)+1))) base (.slice oa out.length oc) out):=OW3.out.setOther APT.out.1 _
       have KP4:Hid (Ab (fun q=> q=g∨va.ownBlock=some q) w (W7.setCell ⟨g,2,none⟩ (.int .i64 ((n1:Int)+1)))):=KP3.out.setCell (.inl rfl) _
       have hm1:Afq wr g 2=n1:=Abf (BG1.out.get (j:=2) rfl)
       go_wp2
       go_roundw
       case rel=>
        generalize W7.setCell ⟨g,2,none⟩ (.int .i64 ((n1:Int)+1))=W8 at *
        exact⟨n1+1,v2,by omega,by omega,hg2,BG4.out.later (Below.refl _ _).drew,BP4.out.later (Below.refl _ _).drew,SL4.out.later (Below.refl _ _).drew (Nat.le_refl _),OW4.out.later (Below.refl _ _).drew,KP4.out.drew⟩
       case measure=>
        generalize W7.setCell ⟨g,2,none⟩ (.int .i64 ((n1:Int)+1))=W8 at *
        have hm2:=Abf (n:=n1+1) ((BG4.out.later (Below.refl _ _).drew).get (j:=2) rfl)
        first | (rw [hm1,hm2];omega) | (simp only [hm1,hm2];omega)
      ·have hkk:=Ag3 hk
       go_wp2_with fail
       go_quiet (fail)
       have HBK:Hid (brk kind L n1):=by
        intro q p h1 h2
        rw [hgs.out,List.getLast?_concat] at h1
        rw [HLK.out] at h2
        cases h1;cases h2
        exact fun h=> hk h.symm
       have hbd:Below wr.heap.size wr (wr.drewN nq):=below_drewN (Below.refl _ _) nq
       have BG2:=Aa (BG1.out.later hbd)
       have BP2:=Aa (BP1.out.later hbd)
       have SL2:=Aa (SL1.out.later hbd (Nat.le_refl _))
       have OW2:=Aa (OW1.out.later hbd)
       have KP2:=Aa (KP1.out.drewN nq)
       generalize wr.drewN nq=W6 at *
       clear c0 c1 c2 p0 p1 hbd
       try clear d0 d1
       have c3:=BG2.out.get (j:=3) rfl
       have z3:=BG2.out.fz 3
       have p0:=BP2.out.get (j:=0) rfl
       have p1:=BP2.out.get (j:=1) rfl
       go_upto_region 9 with (fail)
       have hWn:Bk (W6.alloc (Obj.cells #[Value.string x,Value.int .i64 v] 202)).drew W6.heap.size [.string x, .int .i64 v]:=(Bk.new rfl).later (Below.refl _ _).drew
       have hbd2:Below W6.heap.size W6 (W6.alloc (Obj.cells #[Value.string x,Value.int .i64 v] 202)).drew:=((Below.refl _ _).alloc (Nat.le_refl _) _).drew
       have HNW:Hid (∀ (j:Nat) (u:Value),(Bt (x,v))[j]?=some u→(W6.alloc (Obj.cells #[Value.string x,Value.int .i64 v] 202)).drew.cell? ((⟨W6.heap.size,0,none⟩:Addr).add j)=some u):=by
        intro j u hj
        have h2:=hWn.get (j:=j) hj
        have h3:(⟨W6.heap.size,0,none⟩:Addr).add j=⟨W6.heap.size,j,none⟩:=by
         rcases j with _ | j <;> simp [Addr.add]
        rw [h3];exact h2
       have hbw9:b < W6.heap.size:=by have h1:=BP2.out.lt;omega
       have hb9:base≤(W6.alloc (Obj.cells #[Value.string x,Value.int .i64 v] 202)).drew.heap.size:=by have h1:=BP2.out.lt;have h2:=hbd2.size;omega
       have hsz9:W6.heap.size≤(W6.alloc (Obj.cells #[Value.string x,Value.int .i64 v] 202)).drew.heap.size:=hbd2.size
       have HFIN:=Aa fun v' w1 ho hg hat=> Vb (va:=va) (w:=w) (v':=v') (w1:=w1) LO.out hn2 (Nat.lt_of_lt_of_le hbw9 hsz9) (BG2.out.later hbd2) (SL2.out.later hbd2 (Nat.le_refl _)) APT.out HV.out (KP2.out.trans (Ab.Ai hbd2 (Nat.le_refl _))) (p:=(x,v)) ho hg hat
       have HOW:=Aa (OW2.out.later hbd2)
       have HNX:Hid (Fa kind L n1 (c+(j+1))):=HS.out.next hn hn2 (by rw [hgs.out,HOO.out]) HBK.out
       have HOX:Hid ((Ae kind L).take (c+(j+1))=out++ [(x,v)]):=by
        show _=_
        rw [←HNX.out.out,hgs.out]
       have HONE:=Aa (show ∀ u∈Bt (x,v),u.oneCell'=true by simp [Bt,Value.oneCell'])
       have HLEN:=Aa (show out.length+1≤1000000000 by omega)
       have a3:=cell_later (((Below.refl W6.heap.size W6).alloc (Nat.le_refl _) (Obj.cells #[Value.string x,Value.int .i64 v] 202))) c3
       have HB9:=Aa hb9
       clear hWn hbd2 hbw9 hb9 hsz9 BG2 BP2 SL2 OW2 KP2
       go_region_law (refine Cs (enc:=Bt) Bn _ _ 157 i0 _ rfl rfl Tryz.underlying157 hi hz0 hz1 hz2 rfl (by decide) (by decide) HOW.out (Below.refl _ _) HB9.out HLEN.out rfl (x,v) ⟨W6.heap.size,0,none⟩ 1 rfl HNW.out HONE.out ?_;intro v' w1 hown1 hb1 hgr hat;obtain⟨hra,hv1,hk1,z3,c3⟩:=HFIN.out v' w1 hown1 hgr (by simpa using hat);obtain⟨ao',cap',rfl⟩:=id hown1.1;rw [show(out++ [(x,v)]).length=out.length+1 by simp] at hra hv1 hk1;have HRA:=Aa hra;have HV1:=Aa hv1;have HK1:=Aa hk1;clear hown1 hb1 hgr hat hra hv1 hk1)
       all_goals
        go_wp2
        go_roundw
        case rel=> exact⟨j+1,n1, .slice ao' (out.length+1) cap',by omega,by go_num,(by rw [HOX.out];exact HRA),HNX,HV1,HK1.out⟩
        case measure=> simp [intOf];omega
     ·have e4:decide (n1 < L.length)=false:=by simpa using hn3
      go_wp2_with fail
      go_quiet (fail)
      have HBK:Hid (brk kind L n1):=by
       have hnl2:n1=L.length:=by omega
       rw [hnl2];exact Amb
      have hbd:Below wr.heap.size wr (wr.drewN nq):=below_drewN (Below.refl _ _) nq
      have BG2:=Aa (BG1.out.later hbd)
      have BP2:=Aa (BP1.out.later hbd)
      have SL2:=Aa (SL1.out.later hbd (Nat.le_refl _))
      have OW2:=Aa (OW1.out.later hbd)
      have KP2:=Aa (KP1.out.drewN nq)
      generalize wr.drewN nq=W6 at *
      clear c0 c1 c2 p0 p1 hbd
      try clear d0 d1
      have c3:=BG2.out.get (j:=3) rfl
      have z3:=BG2.out.fz 3
      have p0:=BP2.out.get (j:=0) rfl
      have p1:=BP2.out.get (j:=1) rfl
      go_upto_region 9 with (fail)
      have hWn:Bk (W6.alloc (Obj.cells #[Value.string x,Value.int .i64 v] 202)).drew W6.heap.size [.string x, .int .i64 v]:=(Bk.new rfl).later (Below.refl _ _).drew
      have hbd2:Below W6.heap.size W6 (W6.alloc (Obj.cells #[Value.string x,Value.int .i64 v] 202)).drew:=((Below.refl _ _).alloc (Nat.le_refl _) _).drew
      have HNW:Hid (∀ (j:Nat) (u:Value),(Bt (x,v))[j]?=some u→(W6.alloc (Obj.cells #[Value.string x,Value.int .i64 v] 202)).drew.cell? ((⟨W6.heap.size,0,none⟩:Addr).add j)=some u):=by
       intro j u hj
       have h2:=hWn.get (j:=j) hj
       have h3:(⟨W6.heap.size,0,none⟩:Addr).add j=⟨W6.heap.size,j,none⟩:=by
        rcases j with _ | j <;> simp [Addr.add]
       rw [h3];exact h2
      have hbw9:b < W6.heap.size:=by have h1:=BP2.out.lt;omega
      have hb9:base≤(W6.alloc (Obj.cells #[Value.string x,Value.int .i64 v] 202)).drew.heap.size:=by have h1:=BP2.out.lt;have h2:=hbd2.size;omega
      have hsz9:W6.heap.size≤(W6.alloc (Obj.cells #[Value.string x,Value.int .i64 v] 202)).drew.heap.size:=hbd2.size
      have HFIN:=Aa fun v' w1 ho hg hat=> Vb (va:=va) (w:=w) (v':=v') (w1:=w1) LO.out hn2 (Nat.lt_of_lt_of_le hbw9 hsz9) (BG2.out.later hbd2) (SL2.out.later hbd2 (Nat.le_refl _)) APT.out HV.out (KP2.out.trans (Ab.Ai hbd2 (Nat.le_refl _))) (p:=(x,v)) ho hg hat
      have HOW:=Aa (OW2.out.later hbd2)
      have HNX:Hid (Fa kind L n1 (c+(j+1))):=HS.out.next hn hn2 (by rw [hgs.out,HOO.out]) HBK.out
      have HOX:Hid ((Ae kind L).take (c+(j+1))=out++ [(x,v)]):=by
       show _=_
       rw [←HNX.out.out,hgs.out]
      have HONE:=Aa (show ∀ u∈Bt (x,v),u.oneCell'=true by simp [Bt,Value.oneCell'])
      have HLEN:=Aa (show out.length+1≤1000000000 by omega)
      have a3:=cell_later (((Below.refl W6.heap.size W6).alloc (Nat.le_refl _) (Obj.cells #[Value.string x,Value.int .i64 v] 202))) c3
      have HB9:=Aa hb9
      clear hWn hbd2 hbw9 hb9 hsz9 BG2 BP2 SL2 OW2 KP2
      go_region_law (refine Cs (enc:=Bt) Bn _ _ 157 i0 _ rfl rfl Tryz.underlying157 hi hz0 hz1 hz2 rfl (by decide) (by decide) HOW.out (Below.refl _ _) HB9.out HLEN.out rfl (x,v) ⟨W6.heap.size,0,none⟩ 1 rfl HNW.out HONE.out ?_;intro v' w1 hown1 hb1 hgr hat;obtain⟨hra,hv1,hk1,z3,c3⟩:=HFIN.out v' w1 hown1 hgr (by simpa using hat);obtain⟨ao',cap',rfl⟩:=id hown1.1;rw [show(out++ [(x,v)]).length=out.length+1 by simp] at hra hv1 hk1;have HRA:=Aa hra;have HV1:=Aa hv1;have HK1:=Aa hk1;clear hown1 hb1 hgr hat hra hv1 hk1)
      all_goals
       go_wp2
       go_roundw
       case rel=> exact⟨j+1,n1, .slice ao' (out.length+1) cap',by omega,by go_num,(by rw [HOX.out];exact HRA),HNX,HV1,HK1.out⟩
       case measure=> simp [intOf];omega
   ·have hnL:n'=L.length:=by omega
    have e1:decide (j < M)=true:=by simp;omega
    have e2:((n':Int) ==(L.length:Int))=true:=by rw [hnL,beq_iff_eq]
    have e3:(n' ==L.length)=true:=by rw [hnL,beq_iff_eq]
    have HNL:=Aa hnL
    clear hn hnL
    go_wp2_with fail
    go_quiet (fail)
    have HR2:=Aa (HR.out.later (below_drewN (Below.refl _ _) nq))
    have HKP2:=Aa (HKP.out.drewN nq)
    generalize wr.drewN nq=W2 at *
    clear c0 c1 c2 c3
    have c0:=HR2.out.bk.get (j:=0) rfl
    have c1:=HR2.out.bk.get (j:=1) rfl
    have c2:=HR2.out.bk.get (j:=2) rfl
    have c3:=HR2.out.bk.get (j:=3) rfl
    go_upto_region 11 with (fail)
    go_quiet (fail)
    go_wp2
    go_ret
    have hnL:=HNL.out
    subst hnL
    obtain⟨hs2,ho2⟩:=HS.out.more (d:=c+M) (by omega)
    exact step_end (by simp) (by rw [←ho2,HOO.out];exact HR2.out) hs2 HV.out HKP2.out _
  ·obtain rfl:j=M:=by omega
   have f1:decide (j < j)=false:=by simp
   go_wp2_with fail
   go_quiet (fail)
   go_wp2
   go_ret
   exact step_end (by
    by_cases e:n'=L.length <;> simp [e] <;> omega) (by rw [HOO.out];exact HR.out) HS.out HV.out HKP.out nq
end Go.Proofs.YtbibeionenjmfaaGreatDoor
namespace Go.Proofs.YtbibeionenjmfaaGreatDoor
open Go.RowKit
theorem Fa.cap {kind:Int} {L:List Pr} {n d:Nat} (h:Fa kind L n d):Fa kind L n (min d (Ae kind L).length)∧(Ae kind L).take d=(Ae kind L).take (min d (Ae kind L).length):=by
 have e:(Ae kind L).take d=(Ae kind L).take (min d (Ae kind L).length):=by
  rcases Nat.le_total d (Ae kind L).length with h1 | h1
  ·rw [Nat.min_eq_left h1]
  ·rw [Nat.min_eq_right h1,List.take_of_length_le h1,List.take_length]
 exact⟨⟨by rw [h.out,e],h.brk,h.over.trans ⟨fun _=> by omega,fun _=> by omega⟩⟩,e⟩
def Apg (w:World) (B:Nat) (kind:Int) (L:List Pr) (c:Nat) (S:Nat→Prop) (v:Value):Prop:=
 ∃ g n la lc va,v= .pointer (some ⟨g,0,none⟩)∧Hx w B g kind L n ((Ae kind L).take c) la lc va∧Fa kind L n c∧c≤(Ae kind L).length∧S g∧(∀ q,va.ownBlock=some q→S q)∧∀ b o,la=some ⟨b,o,none⟩→b < w.heap.size
theorem Afu {L:List Pr} (h:Nv L) (kind:Int) (c:Nat):Nv ((Ae kind L).take c):=(h.Ae kind).sub (List.take_sublist _ _)
theorem Ae6 {B:Nat} {kind:Int} {L:List Pr} {c:Nat} {S:Nat→Prop} {v:Value} (w:World) (hg:GT w) (h:Apg w B kind L c S v) (hok:Nv L):
 Calls Tryz.prog 84 #[v] w fun e w'=> e= .returned (.string (tx (Ct ((Ae kind L).take c))))∧Below w.heap.size w w':=by
 obtain⟨g,n,la,lc,va,rfl,h1,h2,h3,h4,h5,h6⟩:=h
 exact Al6 w hg h1 (Afu hok kind c)
end Go.Proofs.YtbibeionenjmfaaGreatDoor
namespace Go.Proofs.YtbibeionenjmfaaGreatDoor
open Go.RowKit
theorem T5 (k:Int) (S:List Pr) (p:Pr):∃ v T,Ae k (S++ [p])=T++ [(p.1,v)]:=by
 rw [Fk]
 rcases Gf (Ae k S) with e | ⟨G,q,e⟩
 ·rw [e,Ei];exact⟨p.2, [],rfl⟩
 ·rw [e]
  by_cases h:q.1=p.1
  ·rw [Cg h];exact⟨two k q.2 p.2,G,by rw [h]⟩
  ·rw [Cp h];exact⟨p.2,G++ [q],rfl⟩
theorem Amc {k:Int} {l:List Pr} {n:Nat} {a b:Pr} (h:brk k l (n+1)) (ha:l[n]?=some a) (hb:l[n+1]?=some b):¬ a.1=b.1:=by
 obtain⟨hlt,hx⟩:=List.getElem?_eq_some_iff.1 ha
 obtain⟨v,T,e⟩:=T5 k (l.take n) a
 have:=h (a.1,v) b (by rw [List.take_succ_eq_append_getElem hlt,hx,e,List.getLast?_concat]) hb
 exact this
theorem Ui {w W:World} {base B g:Nat} {kind:Int} {L:List Pr} {n m:Nat} {O out0:List Pr} {la:Option Addr} {lc:Nat} {va:Value} {pa:Option Addr} {pc:Nat} (h:Hx w base g kind L m out0 la lc va) (hb:Below w.heap.size w W) (hbase:base≤w.heap.size) (hn:n≤L.length) (ho:Own 2 Bt 202 W B (.slice pa O.length pc) O) (hB:w.heap.size≤B) (hla:∀ b o,la=some ⟨b,o,none⟩→b < w.heap.size):
 Hx ((W.setCell ⟨g,2,none⟩ (.int .i64 (n:Int))).setCell ⟨g,3,none⟩ (.slice pa O.length pc)) base g kind L n O la lc (.slice pa O.length pc)∧(∀ q,(Value.slice pa O.length pc).ownBlock=some q→w.heap.size≤q)∧Ab (fun q=> q=g) w ((W.setCell ⟨g,2,none⟩ (.int .i64 (n:Int))).setCell ⟨g,3,none⟩ (.slice pa O.length pc)):=by
 have hgw:=h.bk.lt
 have hlt:∀ q,(Value.slice pa O.length pc).ownBlock=some q→w.heap.size≤q:=fun q e=> Nat.le_trans hB (ho.lt q e).1
 have hne:(Value.slice pa O.length pc).ownBlock≠some g:=fun e=> by have:=hlt g e;omega
 have hbk:=h.bk.later hb
 have h2:=hbk.set (k:=2) (u:= .int .i64 (m:Int)) (.int .i64 (n:Int)) rfl
 have h3:=h2.set (k:=3) (u:=va) (.slice pa O.length pc) rfl
 have hk1:Ab (fun q=> q=g) W ((W.setCell ⟨g,2,none⟩ (.int .i64 (n:Int))).setCell ⟨g,3,none⟩ (.slice pa O.length pc)):=
  ((Ab.refl (fun q=> q=g) W).setCell (p:=⟨g,2,none⟩) rfl _).setCell (p:=⟨g,3,none⟩) rfl _
 refine⟨⟨h3,h.lo,(h.sl.later hb (Nat.le_refl _)).kept hk1 (fun c o e=> (h.apart.2 c o e).1),?_,⟨hne,fun c o e=> ⟨(h.apart.2 c o e).1,fun e2=> ?_⟩⟩,hn⟩,hlt,(Ab.Ai hb (Nat.le_refl _)).trans hk1⟩
 ·exact((ho.B6 (Nat.le_trans hbase hB)).setOther hne _).setOther hne _
 ·have h4:=hlt c e2
  have h5:=hla c o e
  omega
set_option maxRecDepth 100000 in
set_option maxHeartbeats 4000000 in
theorem Ai7 {base g:Nat} {kind:Int} {L:List Pr} {n m c:Nat} {out0:List Pr} {la:Option Addr} {lc:Nat} {va:Value} (w:World) (hg:GW w) (hbase:base≤w.heap.size) (h:Hx w base g kind L m out0 la lc va) (hst:Fa kind L n c) (hn:n≤L.length) (hL:L.length≤1000000) (hok:Nv ((Ae kind L).take c)) (hs:(Gg n ((Ae kind L).take c)).length≤10000000) (hla:∀ b o,la=some ⟨b,o,none⟩→b < w.heap.size):
 Calls Tryz.prog 74 #[.pointer (some ⟨g,0,none⟩), .string (tx (Gg n ((Ae kind L).take c)))] w fun e w'=> (e= .returned (.bool true)∧∃ va',Hx w' base g kind L n ((Ae kind L).take c) la lc va'∧∀ q,va'.ownBlock=some q→w.heap.size≤q)∧Ab (fun q=> q=g) w w':=by
 have HB9:=Aa hst.brk
 generalize (Ae kind L).take c=O at *
 have HH:=Aa h
 have HC:=Aa (Sy (tx (Gg n O)) 10 w hg.gm (by rw [Am];exact hs))
 rw [Ap,Aby] at HC
 rw [Pu] at hs
 have HA:=Aa fun w' (hb:Below w.heap.size w w')=> V9 n w' (hg.later hb (Nat.le_refl _)) (by omega)
 have HI:=Aa fun w' (hb:Below w.heap.size w w')=> Gc (n:Int) w' (hg.later hb (Nat.le_refl _)) (by omega) (by omega)
 have HP:=Aa fun w' (hb:Below w.heap.size w w')=> Te O w' (hg.later hb (Nat.le_refl _)) hok (by omega)
 have HBASE:=Aa hbase
 have HLA:=Aa hla
 clear hg hst h hok hs hbase hla
 generalize tx (Gg n O)=SV at *
 generalize tx (Lib.itoa (n:Int))=D at *
 generalize tx (Ct O)=TX at *
 have hdd:=Ag1 D
 go_enter Tryz.func74,Tryz.ntmps74
 go_wp2_with fail
 refine HC.out.mono ?_
 rintro e w1 ⟨rfl,b1⟩
 have HB:=Aa b1
 clear b1 HC
 go_wp2_with fail
 refine(HA.out _ HB.out).mono ?_
 rintro e w2 ⟨rfl,b2⟩
 replace HB:=Aa (HB.out.trans (b2.mono HB.out.size))
 clear b2 HA
 go_wp2_with fail
 have hbs2:=HB.out.size
 refine(HP.out _ HB.out).mono ?_
 rintro e w3 ⟨⟨pa,pc,rfl,po⟩,b3⟩
 replace HB:=Aa (HB.out.trans (b3.mono HB.out.size))
 have HPO:=Aa po
 have HBS:Hid (w.heap.size≤w2.heap.size):=hbs2
 clear b3 HP po hbs2
 have c1:=(HH.out.later HB.out).bk.get (j:=1) rfl
 have e1:decide ((n:Int) < 0)=false:=by simp
 have e2:decide ((L.length:Int) < (n:Int))=false:=by simp;omega
 have e2':decide (L.length < n)=false:=by simp;omega
 go_wp2_with fail
 refine(HI.out _ HB.out).mono ?_
 rintro e w4 ⟨rfl,b4⟩
 replace c1:=cell_later b4 c1
 replace HB:=Aa (HB.out.trans (b4.mono HB.out.size))
 replace HPO:=Aa (HPO.out.later b4)
 clear b4 HI
 by_cases hn0:n=0
 ·have e3:decide (0 < n)=false:=by simp;omega
  have e3':decide ((0:Int) < (n:Int))=false:=by simp;omega
  clear hn0
  go_wp2_with fail
  go_quiet (fail)
  have hbd:Below w4.heap.size w4 (w4.drewN nq):=below_drewN (Below.refl _ _) nq
  have hbw4:=HB.out.trans (hbd.mono HB.out.size)
  have HFIN:=Aa (Ui HH.out hbw4 HBASE.out hn (HPO.out.later hbd) HBS.out HLA.out)
  have hbk:=HH.out.bk.later hbw4
  have c2:=hbk.get (j:=2) rfl
  have c3:=hbk.get (j:=3) rfl
  have z2:=hbk.fz 2
  have z3:=hbk.fz 3
  clear hbd hbw4 hbk
  generalize w4.drewN nq=W at *
  go_wp2
  go_ret
  exact⟨⟨rfl,_,HFIN.out.1,HFIN.out.2.1⟩,HFIN.out.2.2⟩
 have e3:decide (0 < n)=true:=by simp;omega
 have e3':decide ((0:Int) < (n:Int))=true:=by simp;omega
 by_cases hn1:n < L.length
 ·have e4:decide (n < L.length)=true:=by simpa using hn1
  have e4':decide ((n:Int) < (L.length:Int))=true:=by simp;omega
  obtain⟨k,rfl⟩:∃ k,n=k+1:=⟨n - 1,by omega⟩
  obtain⟨b,off,x1,y1,rfl,hbw,hlk,d0,d1⟩:=(HH.out.sl.later HB.out (Nat.le_refl _)).pair (k:=k) (by omega)
  obtain⟨_,_,x2,y2,e9,_,hlk2,d2,d3⟩:=(HH.out.sl.later HB.out (Nat.le_refl _)).pair (k:=k+1) hn1
  cases e9
  have hne:=Amc HB9.out hlk hlk2
  have hkk:=Ag3 hne
  dsimp only at hkk
  have f1:(0:Int)≤(k:Int)∧(k:Int) < (L.length:Int)∧(0:Int)≤(k:Int)+1∧(k:Int)+1 < (L.length:Int):=by omega
  obtain⟨f1,f2,f3,f4⟩:=f1
  have f5:IntKind.i64.wrap ((k:Int)+1 - 1)=(k:Int):=by rw [show((k:Int)+1 - 1)=(k:Int) from by omega];exact IntWalk.i64_in _ (by omega)
  have f6:((k:Int)+1).toNat=k+1:=by omega
  clear hlk hlk2 hne
  go_wp2_with fail
  go_quiet (fail)
  clear f5 f6
  have hbd:Below w4.heap.size w4 (w4.drewN nq):=below_drewN (Below.refl _ _) nq
  have hbw4:=HB.out.trans (hbd.mono HB.out.size)
  have HFIN:=Aa (Ui HH.out hbw4 HBASE.out hn (HPO.out.later hbd) HBS.out HLA.out)
  have hbk:=HH.out.bk.later hbw4
  have c2:=hbk.get (j:=2) rfl
  have c3:=hbk.get (j:=3) rfl
  have z2:=hbk.fz 2
  have z3:=hbk.fz 3
  clear hbd hbw4 hbk
  generalize w4.drewN nq=W at *
  go_wp2
  go_ret
  exact⟨⟨rfl,_,HFIN.out.1,HFIN.out.2.1⟩,HFIN.out.2.2⟩
 ·have e4:decide (n < L.length)=false:=by simpa using hn1
  have e4':decide ((n:Int) < (L.length:Int))=false:=by simp;omega
  go_wp2_with fail
  go_quiet (fail)
  have hbd:Below w4.heap.size w4 (w4.drewN nq):=below_drewN (Below.refl _ _) nq
  have hbw4:=HB.out.trans (hbd.mono HB.out.size)
  have HFIN:=Aa (Ui HH.out hbw4 HBASE.out hn (HPO.out.later hbd) HBS.out HLA.out)
  have hbk:=HH.out.bk.later hbw4
  have c2:=hbk.get (j:=2) rfl
  have c3:=hbk.get (j:=3) rfl
  have z2:=hbk.fz 2
  have z3:=hbk.fz 3
  clear hbd hbw4 hbk
  generalize w4.drewN nq=W at *
  go_wp2
  go_ret
  exact⟨⟨rfl,_,HFIN.out.1,HFIN.out.2.1⟩,HFIN.out.2.2⟩
end Go.Proofs.YtbibeionenjmfaaGreatDoor
