/- The mapper: At, Save, Load of what was saved, New of what may not be. -/
import Derived.Test.YtbibeionenjmfaaGreatDoorFolder4
import Derived.Test.YtbibeionenjmfaaGreatDoorMSlices
set_option linter.unusedSimpArgs false
set_option linter.unusedVariables false
namespace Go.Proofs.YtbibeionenjmfaaGreatDoor
open Go.RowKit
theorem Aly {line it:ByteArray} {ws:List ByteArray} {each:Bool} (hl:line.size≤1000) (hi:it.size≤1000) (hw:∀ x∈ws,x.size≤1000) (hws:ws.length≤1000):∀ e:Af,J0 e false each=true→e.nodes≤1000→ -9223372036854775808≤J3 e line it ws∧J3 e line it ws≤9223372036854775807
 | .mk k n s a,h,hn=> by
   obtain⟨p1,p2,p3,p4,p5,p6⟩:=Fu h
   rw [J3]
   unfold An5
   split
   ·rename_i h7
    subst h7
    unfold Oz at p2
    rw [if_neg (by omega),if_neg (by omega),if_pos rfl] at p2
    simp only [Bool.and_eq_true,decide_eq_true_eq] at p2
    omega
   ·split
    ·rename_i h8
     subst h8
     match a,p5 with
     | [x],_=>
       have hx:J0 x true each=true:=by
        simp only [Dm,show(8:Int)≠5 by decide,if_false,or_true,if_true,Vb,Bool.and_eq_true] at p6
        exact p6.1
       have h1:=Yn hl hi hw x hx
       have h2:x.nodes≤1000:=by
        simp only [Af.nodes,Af.C9] at hn
        omega
       have h3:=Nat.mul_le_mul_left 1000 h2
       simp only [U7,List.getD_cons_zero]
       omega
    ·split
     ·omega
     ·split
      ·rw [IntKind.wrap_i64]
       omega
      ·omega
theorem Ahc {r:Ax} (hok:Gv r) (kind:Int) (line:ByteArray) (hl:line.size≤500):∀ p∈Nx r kind line,p.1.size≤20∧ -9223372036854775808≤p.2∧p.2≤9223372036854775807:=by
 intro p hp
 unfold Nx at hp
 obtain⟨it,hit,hm⟩:=List.mem_filterMap.1 hp
 have hwl:=Ny hl
 have his:it.size≤1000:=by
  unfold Yi at hit
  split at hit
  ·exact hwl.2 it hit
  ·rw [List.mem_singleton.1 hit];decide
 unfold Jf at hm
 split at hm
 ·obtain rfl:=Option.some.inj hm
  unfold Uj
  refine⟨?_,?_⟩
  ·show(Jd _).size≤20
   unfold Jd
   rw [ByteArray.size_extract]
   omega
  ·have hv:=Aly (line:=line) (it:=it) (ws:=A4 line) (each:=r.each) (by omega) his hwl.2 (by omega) r.val hok.val.2.2 (by have:=hok.val.1;omega)
   show -9223372036854775808≤first kind _∧first kind _≤9223372036854775807
   unfold first
   split
   ·omega
   ·exact hv
 ·cases hm
theorem Afq {rs:List Ax} (hok:∀ r∈rs,Gv r) (kind:Int) (line:ByteArray) (hl:line.size≤500):∀ p∈Fj rs kind line,p.1.size≤20∧ -9223372036854775808≤p.2∧p.2≤9223372036854775807:=by
 intro p hp
 unfold Fj at hp
 obtain⟨r,hr,hp⟩:=List.mem_flatMap.1 hp
 exact Ahc (hok r hr) kind line hl p hp
theorem Ph {rs:List Ax} (hok:∀ r∈rs,Gv r) (kind:Int) {lines:List ByteArray} (hl:∀ l∈lines,l.size≤500):∀ p∈A9 rs kind lines,p.1.size≤20∧ -9223372036854775808≤p.2∧p.2≤9223372036854775807:=by
 intro p hp
 unfold A9 at hp
 obtain⟨x,hx,hp⟩:=List.mem_flatMap.1 hp
 exact Afq hok kind x (hl x hx) p hp
end Go.Proofs.YtbibeionenjmfaaGreatDoor
namespace Go.Proofs.YtbibeionenjmfaaGreatDoor
open Go.RowKit
def D7 (w:World) (B:Nat) (ro:Option Addr) (rc:Nat) (rs:List Am) (fold slices:Int) (early:Bool) (lines:List ByteArray) (n:Nat) (S:Nat→Prop) (v:Value):Prop:=
 ∃ g la lc va,v= .pointer (some ⟨g,0,none⟩)∧Dx w B g ro rc rs fold slices early lines n la lc va∧S g∧(∀ q,va.ownBlock=some q→S q)∧∀ b o,la=some ⟨b,o,none⟩→S b
section
variable {w w':World} {B:Nat} {ro:Option Addr} {rc:Nat} {rs:List Am} {fold slices:Int} {early:Bool} {lines:List ByteArray} {n:Nat} {S T:Nat→Prop} {v:Value}
theorem D7.ptr (h:D7 w B ro rc rs fold slices early lines n S v):∃ g,v= .pointer (some ⟨g,0,none⟩):=by
 obtain⟨g,_,_,_,e,_⟩:=h
 exact⟨g,e⟩
theorem D7.more (h:D7 w B ro rc rs fold slices early lines n S v) (hs:∀ q,S q→T q):D7 w B ro rc rs fold slices early lines n T v:=by
 obtain⟨g,la,lc,va,e,h1,h2,h3,h4⟩:=h
 exact⟨g,la,lc,va,e,h1,hs g h2,fun q e=> hs q (h3 q e),fun b o e=> hs b (h4 b o e)⟩
theorem Dx.kept {g:Nat} {la:Option Addr} {lc:Nat} {va:Value} (h:Dx w B g ro rc rs fold slices early lines n la lc va) (k:Ab T w w') (hg:¬ T g) (hv:∀ q,va.ownBlock=some q→¬ T q) (hl:∀ b o,la=some ⟨b,o,none⟩→¬ T b):Dx w' B g ro rc rs fold slices early lines n la lc va:=
 ⟨h.bk.kept k hg,h.lo,h.sl.kept k hl,k.own h.own hv,⟨h.apart.1,fun b o e=> ⟨⟨(h.apart.2 b o e).1.1,Nat.lt_of_lt_of_le (h.apart.2 b o e).1.2 k.size⟩,(h.apart.2 b o e).2⟩⟩,h.Pk⟩
theorem D7.kept (h:D7 w B ro rc rs fold slices early lines n S v) (k:Ab T w w') (hs:∀ q,S q→¬ T q):D7 w' B ro rc rs fold slices early lines n S v:=by
 obtain⟨g,la,lc,va,e,h1,h2,h3,h4⟩:=h
 exact⟨g,la,lc,va,e,h1.kept k (hs g h2) (fun q e=> hs q (h3 q e)) (fun b o e=> hs b (h4 b o e)),h2,h3,h4⟩
theorem D7.later (h:D7 w B ro rc rs fold slices early lines n S v) (hb:Below w.heap.size w w'):D7 w' B ro rc rs fold slices early lines n S v:=by
 obtain⟨g,la,lc,va,e,h1,h2,h3,h4⟩:=h
 exact⟨g,la,lc,va,e,h1.later hb,h2,h3,h4⟩
end
theorem Ah7 (ro:Option Addr) (rc:Nat) (rs:List Am) (fold slices:Int) (early:Bool) (d:Nat) (lo:Option Addr) (lc:Nat) (lines:List ByteArray) (w:World) (hj:Aej w ro rs d) (hl:rs.length≤maxLen) (hs:Sl 1 C8 w lo lines) (hn:lo=none→lc=0) (hok:Dp (rs.map Am.v) fold slices=0) (h60:lines.length≤60):
 Calls Tryz.prog 75 #[.agg #[.slice ro rs.length rc, .int .i64 fold, .bool early, .int .i64 slices], .slice lo lines.length lc] w fun e w'=> (∃ v,e= .returned (.tuple #[v, .nilIface])∧D7 w' w.heap.size ro rc rs fold slices early lines 0 (fun q=> w.heap.size≤q∧q < w'.heap.size) v)∧Below w.heap.size w w':=by
 refine(Amu ro rc rs fold slices early d lo lc lines w hj hl (by omega) hs hn hok h60).mono ?_
 rintro e w' ⟨⟨g,la,lc',rfl,h,hlo⟩,hb⟩
 exact⟨⟨_,rfl,g,la,lc',_,rfl,h,⟨h.lo,h.bk.lt⟩,fun q e=> by simp [Value.ownBlock] at e,fun b o e=> ⟨hlo b o e,(h.apart.2 b o e).1.2⟩⟩,hb⟩
theorem Aha {B:Nat} {ro:Option Addr} {rc:Nat} {rs:List Am} {fold slices:Int} {early:Bool} {lines:List ByteArray} {n:Nat} {S:Nat→Prop} {v:Value} (d:Nat) (many:Int) (w:World) (hB:B≤w.heap.size) (hg:∀ w',Below B w w'→GM w') (hj:∀ w',Below B w w'→Aej w' ro rs d) (hok:Pf rs fold slices) (h:D7 w B ro rc rs fold slices early lines n S v) (hli:∀ l∈lines,l.size≤500) (hll:lines.length≤1000) (hmany:many≤9223372036854775807):
 Calls Tryz.prog 81 #[v, .int .i64 many] w fun e w'=> (e= .returned (.bool (decide (min (n+many.toNat) lines.length=lines.length)))∧D7 w' B ro rc rs fold slices early lines (min (n+many.toNat) lines.length) (fun q=> S q∨w.heap.size≤q) v)∧Ab S w w':=by
 obtain⟨g,la,lc,va,rfl,h1,h2,h3,h4⟩:=h
 refine(Ag9 d many w hB hg hj hok h1 hli hll hmany).mono ?_
 rintro e w' ⟨va',⟨rfl,k1,k2⟩,k3⟩
 exact⟨⟨rfl,g,la,lc,va',rfl,k1, .inl h2,fun q e=> (k2 q e).imp (h3 q) id,fun b o e=> .inl (h4 b o e)⟩,k3.mono fun q hq=> hq.elim (fun e=> e ▸ h2) (h3 q)⟩
theorem Zw {B:Nat} {ro:Option Addr} {rc:Nat} {rs:List Am} {fold:Int} {many:Nat} {early:Bool} {lines:List ByteArray} {n:Nat} {S:Nat→Prop} {v:Value} (w:World) (h:D7 w B ro rc rs fold many early lines n S v) (hok:Pf rs fold many) (hli:∀ l∈lines,l.size≤500) (hll:lines.length≤1000):
 Calls Tryz.prog 85 #[v] w fun e w'=> ∃ ob vs,e= .returned (.slice (some ⟨ob,0,none⟩) many many)∧Pa w' w.heap.size ob vs (Ke fold early many (A9 (rs.map Am.v) fold (lines.take n)))∧Below w.heap.size w w':=by
 obtain⟨g,la,lc,va,rfl,h1,h2,h3,h4⟩:=h
 have hm:=hok.slices
 have h5:=Q4 (rs.map Am.v) fold (by rw [List.length_map];exact hok.many.2) (lines.take n) (fun l hl=> hli l (List.mem_of_mem_take hl))
 rw [List.length_take] at h5
 refine Abi w h1 (by omega) (by omega) fun p hp=> ?_
 have:=(Ph (rs:=rs.map Am.v) (by intro r hr;obtain⟨x,hx,rfl⟩:=List.mem_map.1 hr;exact hok.ok x hx) fold (lines:=lines.take n) (fun l hl=> hli l (List.mem_of_mem_take hl)) p hp).1
 unfold maxLen
 omega
end Go.Proofs.YtbibeionenjmfaaGreatDoor
namespace Go.Proofs.YtbibeionenjmfaaGreatDoor
open Go.RowKit
theorem Ago {w W:World} {B Bp g m n:Nat} {ro:Option Addr} {rc:Nat} {rs:List Am} {fold slices:Int} {early:Bool} {lines:List ByteArray} {la:Option Addr} {lc:Nat} {va:Value} {O:List Pr} {pa:Option Addr} {pc:Nat} (h:Dx w B g ro rc rs fold slices early lines m la lc va) (hb:Below w.heap.size w W) (hB:B≤w.heap.size) (hn:n≤lines.length) (ho:Own 2 Bq 202 W Bp (.slice pa O.length pc) O) (hBp:w.heap.size≤Bp) (hO:O=A9 (rs.map Am.v) fold (lines.take n)):
 Dx ((W.setCell ⟨g,5,none⟩ (.int .i64 (n:Int))).setCell ⟨g,6,none⟩ (.slice pa O.length pc)) B g ro rc rs fold slices early lines n la lc (.slice pa O.length pc)∧(∀ q,(Value.slice pa O.length pc).ownBlock=some q→w.heap.size≤q)∧Ab (fun q=> q=g) w ((W.setCell ⟨g,5,none⟩ (.int .i64 (n:Int))).setCell ⟨g,6,none⟩ (.slice pa O.length pc)):=by
 have hgw:=h.bk.lt
 have hlt:∀ q,(Value.slice pa O.length pc).ownBlock=some q→w.heap.size≤q:=fun q e=> Nat.le_trans hBp (ho.lt q e).1
 have hne:(Value.slice pa O.length pc).ownBlock≠some g:=fun e=> by have:=hlt g e;omega
 have hbk:=h.bk.later hb
 have h2:=hbk.set (k:=5) (u:= .int .i64 (m:Int)) (.int .i64 (n:Int)) rfl
 have h3:=h2.set (k:=6) (u:=va) (.slice pa O.length pc) rfl
 have hk1:Ab (fun q=> q=g) W ((W.setCell ⟨g,5,none⟩ (.int .i64 (n:Int))).setCell ⟨g,6,none⟩ (.slice pa O.length pc)):=
  ((Ab.refl (fun q=> q=g) W).setCell (p:=⟨g,5,none⟩) rfl _).setCell (p:=⟨g,6,none⟩) rfl _
 refine⟨⟨h3,h.lo,(h.sl.later hb (Nat.le_refl _)).kept hk1 (fun c o e=> (h.apart.2 c o e).1.1),?_,⟨hne,fun c o e=> ⟨⟨(h.apart.2 c o e).1.1,?_⟩,fun e2=> ?_⟩⟩,hn⟩,hlt,(Ab.Ag hb (Nat.le_refl _)).trans hk1⟩
 ·rw [←hO]
  exact((ho.Bo (Nat.le_trans hB hBp)).setOther hne _).setOther hne _
 ·have h4:=(h.apart.2 c o e).1.2
  have h5:=hb.size
  have h6:=hk1.size
  omega
 ·have h4:=hlt c e2
  have h5:=(h.apart.2 c o e).1.2
  omega
set_option maxRecDepth 100000 in
set_option maxHeartbeats 4000000 in
theorem Agv {B g m n:Nat} {ro:Option Addr} {rc:Nat} {rs:List Am} {fold slices:Int} {early:Bool} {lines:List ByteArray} {la:Option Addr} {lc:Nat} {va:Value} (w:World) (hg:GW w) (hB:B≤w.heap.size) (h:Dx w B g ro rc rs fold slices early lines m la lc va) (hn:n≤lines.length) (hL:lines.length≤1000000) (O:List Pr) (hO:O=A9 (rs.map Am.v) fold (lines.take n)) (hok:Ng O) (hs:(F8 n O).length≤10000000):
 Calls Tryz.prog 76 #[.pointer (some ⟨g,0,none⟩), .string (tx (F8 n O))] w fun e w'=> (e= .returned (.bool true)∧∃ va',Dx w' B g ro rc rs fold slices early lines n la lc va'∧∀ q,va'.ownBlock=some q→w.heap.size≤q)∧Ab (fun q=> q=g) w w':=by
 have HH:=Aa h
 have HO:=Aa hO
 have HC:=Aa (Sj (tx (F8 n O)) 10 w hg.gm (by rw [Ak];exact hs))
 rw [An,Aar] at HC
 rw [O1] at hs
 have HA:=Aa fun w' (hb:Below w.heap.size w w')=> Vw n w' (hg.later hb (Nat.le_refl _)) (by omega)
 have HI:=Aa fun w' (hb:Below w.heap.size w w')=> F9 (n:Int) w' (hg.later hb (Nat.le_refl _)) (by omega) (by omega)
 have HP:=Aa fun w' (hb:Below w.heap.size w w')=> Up O w' (hg.later hb (Nat.le_refl _)) hok (by omega)
 have HBASE:=Aa hB
 clear hg h hok hs hB hO
 generalize tx (F8 n O)=SV at *
 generalize tx (Lib.itoa (n:Int))=D at *
 generalize tx (Cl O)=TX at *
 have hdd:=Afv D
 go_enter Tryz.func76,Tryz.ntmps76
 go_wp2_with fail
 refine HC.out.mono ?_
 rintro e w1 ⟨rfl,b1⟩
 have HB:=Aa b1
 clear b1 HC
 go_wp2_with fail
 refine(HA.out _ HB.out).mono ?_
 rintro e w2 ⟨rfl,b2⟩
 replace HB:=Aa (HB.out.trans (b2.mono HB.out.size))
 clear b2 HA
 go_wp2_with fail
 have hbs2:=HB.out.size
 refine(HP.out _ HB.out).mono ?_
 rintro e w3 ⟨⟨pa,pc,rfl,po⟩,b3⟩
 replace HB:=Aa (HB.out.trans (b3.mono HB.out.size))
 have HPO:=Aa po
 have HBS:Hid (w.heap.size≤w2.heap.size):=hbs2
 clear b3 HP po hbs2
 have e1:decide ((n:Int) < 0)=false:=by simp
 have e2:decide ((lines.length:Int) < (n:Int))=false:=by simp;omega
 have e2':decide (lines.length < n)=false:=by simp;omega
 go_wp2_with fail
 refine(HI.out _ HB.out).mono ?_
 rintro e w4 ⟨rfl,b4⟩
 replace HB:=Aa (HB.out.trans (b4.mono HB.out.size))
 replace HPO:=Aa (HPO.out.later b4)
 clear b4 HI
 have hbk:=HH.out.bk.later HB.out
 have c4:=hbk.get (j:=4) rfl
 have c5:=hbk.get (j:=5) rfl
 have c6:=hbk.get (j:=6) rfl
 have z5:=hbk.fz 5
 have z6:=hbk.fz 6
 have HFIN:=Aa (Ago HH.out HB.out HBASE.out hn HPO.out HBS.out HO.out)
 clear hbk
 go_wp2
 go_ret
 exact⟨⟨rfl,_,HFIN.out.1,HFIN.out.2.1⟩,HFIN.out.2.2⟩
theorem Afh {B m n:Nat} {ro:Option Addr} {rc:Nat} {rs:List Am} {fold slices:Int} {early:Bool} {lines:List ByteArray} {S:Nat→Prop} {v:Value} (w:World) (hg:GW w) (hB:B≤w.heap.size) (h:D7 w B ro rc rs fold slices early lines m S v) (hn:n≤lines.length) (hL:lines.length≤1000000) (hok:Ng (A9 (rs.map Am.v) fold (lines.take n))) (hs:(Cl (A9 (rs.map Am.v) fold (lines.take n))).length≤9000000):
 Calls Tryz.prog 76 #[v, .string (tx (F8 n (A9 (rs.map Am.v) fold (lines.take n))))] w fun e w'=> (e= .returned (.bool true)∧D7 w' B ro rc rs fold slices early lines n (fun q=> S q∨w.heap.size≤q) v)∧Ab S w w':=by
 obtain⟨g,la,lc,va,rfl,h1,h2,h3,h4⟩:=h
 have hl:(Lib.itoa (n:Int)).length≤20:=C2 (by omega) (by omega)
 refine(Agv w hg hB h1 hn hL _ rfl hok (by rw [O1];omega)).mono ?_
 rintro e w' ⟨⟨rfl,va',k1,k2⟩,k3⟩
 exact⟨⟨rfl,g,la,lc,va',rfl,k1, .inl h2,fun q e=> .inr (k2 q e),fun b o e=> .inl (h4 b o e)⟩,k3.mono fun q e=> e ▸ h2⟩
end Go.Proofs.YtbibeionenjmfaaGreatDoor
namespace Go.Proofs.YtbibeionenjmfaaGreatDoor
open Go.RowKit
def Gs (w:World) (B:Nat) (kind:Int) (L:List Pr) (c:Nat) (S LS:Nat→Prop) (v:Value):Prop:=
 ∃ g n la lc va,v= .pointer (some ⟨g,0,none⟩)∧H7 w B g kind L n ((Ae kind L).take c) la lc va∧Fa kind L n c∧c≤(Ae kind L).length∧S g∧(∀ q,va.ownBlock=some q→S q)∧(∀ b o,la=some ⟨b,o,none⟩→LS b)∧g < w.heap.size
theorem Gs.Aor {w:World} {B:Nat} {kind:Int} {L:List Pr} {c:Nat} {S LS:Nat→Prop} {v:Value} (h:Gs w B kind L c S LS v) (hL:∀ q,LS q→q < w.heap.size):Aon w B kind L c S v:=by
 obtain⟨g,n,la,lc,va,e,h1,h2,h3,h4,h5,h6,_⟩:=h
 exact⟨g,n,la,lc,va,e,h1,h2,h3,h4,h5,fun b o e=> hL b (h6 b o e)⟩
theorem Gs.kept {w w':World} {B:Nat} {kind:Int} {L:List Pr} {c:Nat} {S LS T:Nat→Prop} {v:Value} (h:Gs w B kind L c S LS v) (k:Ab T w w') (hs:∀ q,S q→¬ T q) (hl:∀ q,LS q→¬ T q):Gs w' B kind L c S LS v:=by
 obtain⟨g,n,la,lc,va,e,h1,h2,h3,h4,h5,h6,h7⟩:=h
 exact⟨g,n,la,lc,va,e,⟨h1.bk.kept k (hs g h4),h1.lo,h1.sl.kept k fun b o e=> hl b (h6 b o e),k.own h1.own fun q e=> hs q (h5 q e),h1.apart,h1.Pk⟩,h2,h3,h4,h5,h6,Nat.lt_of_lt_of_le h7 k.size⟩
theorem Gs.later {w w':World} {B:Nat} {kind:Int} {L:List Pr} {c:Nat} {S LS:Nat→Prop} {v:Value} (h:Gs w B kind L c S LS v) (hb:Below w.heap.size w w'):Gs w' B kind L c S LS v:=
 h.kept (Ab.Ag (S:=fun _=> False) hb (Nat.le_refl _)) (fun _ _ h=> h) fun _ _ h=> h
theorem Gs.ptr {w:World} {B:Nat} {kind:Int} {L:List Pr} {c:Nat} {S LS:Nat→Prop} {v:Value} (h:Gs w B kind L c S LS v):∃ g,v= .pointer (some ⟨g,0,none⟩):=by
 obtain⟨g,n,la,lc,va,e,_⟩:=h
 exact⟨g,e⟩
theorem Ajx (kind:Int) (ao:Option Addr) (cap:Nat) (rs:List Qh) (w:World) (hk:Eb kind=0) (hl:rs.length≤100000) (htot:(Cv rs).flatten.length≤100000000) (hr:∀ l∈Cv rs,Bh l) (hs:Sl 1 J6 w ao rs) (hrow:∀ r∈rs,Sl 2 Bq w r.1 r.2.2):
 Calls Tryz.prog 73 #[.int .i64 kind, .slice ao rs.length cap] w fun e w'=> (∃ g,e= .returned (.tuple #[.pointer (some ⟨g,0,none⟩), .nilIface])∧Gs w' w.heap.size kind (Dq (Cv rs).flatten) 0 (fun q=> w.heap.size≤q∧q < w'.heap.size) (fun q=> w.heap.size≤q∧q < w'.heap.size) (.pointer (some ⟨g,0,none⟩)))∧Below w.heap.size w w':=by
 refine(Alk kind ao cap rs w hk hl htot hr hs hrow).mono ?_
 rintro e w' ⟨⟨g,la,lc,rfl,h,hla⟩,hb⟩
 exact⟨⟨g,rfl,g,0,la,lc,_,rfl,by rw [List.take_zero];exact h,Fa.zero,Nat.zero_le _,⟨h.lo,h.bk.lt⟩,fun q e=> by simp [Value.ownBlock] at e,hla,h.bk.lt⟩,hb⟩
theorem Af8 {B:Nat} {kind:Int} {L:List Pr} {c:Nat} {S LS:Nat→Prop} {v:Value} (many:Int) (w:World) (hB:B≤w.heap.size) (h:Gs w B kind L c S LS v) (hL:L.length≤1000000) (hmany:many≤9223372036854775807):
 Calls Tryz.prog 80 #[v, .int .i64 many] w fun e w'=> (e= .returned (.bool (decide (min (c+many.toNat) (Ae kind L).length=(Ae kind L).length)))∧Gs w' B kind L (min (c+many.toNat) (Ae kind L).length) (fun q=> (S q∨w.heap.size≤q)∧q < w'.heap.size) LS v)∧Ab S w w':=by
 obtain⟨g,n,la,lc,va,rfl,h1,h2,h3,h4,h5,h6,h7⟩:=h
 refine(Ai7 many w hB h1 h2 hL hmany).mono ?_
 rintro e w' ⟨n',va',⟨rfl,k1,k2,k3⟩,k4⟩
 obtain⟨k5,k6⟩:=k2.cap
 have hk:=k4.mono (T:=S) fun q hq=> hq.elim (fun e=> e ▸ h4) (h5 q)
 refine⟨⟨?_,g,n',la,lc,va',rfl,by rw [←k6];exact k1,k5,Nat.min_le_right _ _,⟨.inl h4,Nat.lt_of_lt_of_le h7 k4.size⟩,fun q e=> ⟨(k3 q e).imp (h5 q) id,(k1.own.lt q e).2⟩,h6,Nat.lt_of_lt_of_le h7 k4.size⟩,hk⟩
 refine Js (decide_eq_decide.2 (Iff.trans ⟨fun h=> ?_,fun h=> ?_⟩ k5.over.symm)) <;> omega
end Go.Proofs.YtbibeionenjmfaaGreatDoor
namespace Go.Proofs.YtbibeionenjmfaaGreatDoor
open Go.RowKit
theorem Aa3 (k:Int) {l:List Pr} (hl:l.length≤60800) (h:∀ p∈l,p.1.size≤60∧ -9223372036854775808≤p.2∧p.2≤9223372036854775807) (c:Nat):(Cl ((Ae k l).take c)).length≤9000000:=by
 have h1:∀ p∈Ae k l,p.1.size≤60∧ -9223372036854775808≤p.2∧p.2≤9223372036854775807:=
  Od k _ (fun q p hq hp _=> ⟨hq.1,Adm k q.2 p.2 hq.2 hp.2⟩) l h
 have h2:=L5 ((Ae k l).take c) fun p hp=> h1 p (List.mem_of_mem_take hp)
 have h3:=D3 k l
 rw [List.length_take] at h2
 omega
end Go.Proofs.YtbibeionenjmfaaGreatDoor
