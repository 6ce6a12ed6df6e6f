/- The mapper: At, Save, Load of what was saved, New of what may not be. -/
import Derived.Test.YtbibeionenjmfaaGreatDoorZFolder4
import Derived.Test.YtbibeionenjmfaaGreatDoorZMSlices
set_option linter.unusedSimpArgs false
set_option linter.unusedVariables false
namespace Go.Proofs.YtbibeionenjmfaaGreatDoor
open Go.RowKit
theorem Amr {line it:ByteArray} {ws:List ByteArray} {each:Bool} (hl:line.size≤1000) (hi:it.size≤1000) (hw:∀ x∈ws,x.size≤1000) (hws:ws.length≤1000):∀ e:Ah,Kg e false each=true→e.nodes≤1000→ -9223372036854775808≤Kd e line it ws∧Kd e line it ws≤9223372036854775807
 | .mk k n s a,h,hn=> by
   obtain⟨p1,p2,p3,p4,p5,p6⟩:=F6 h
   rw [Kd]
   unfold Ao1
   split
   ·rename_i h7
    subst h7
    unfold Pj at p2
    rw [if_neg (by omega),if_neg (by omega),if_pos rfl] at p2
    simp only [Bool.and_eq_true,decide_eq_true_eq] at p2
    omega
   ·split
    ·rename_i h8
     subst h8
     match a,p5 with
     | [x],_=>
       have hx:Kg x true each=true:=by
        simp only [Dp,show(8:Int)≠5 by decide,if_false,or_true,if_true,V2,Bool.and_eq_true] at p6
        exact p6.1
       have h1:=Ze hl hi hw x hx
       have h2:x.nodes≤1000:=by
        simp only [Ah.nodes,Ah.Da] at hn
        omega
       have h3:=Nat.mul_le_mul_left 1000 h2
       simp only [V3,List.getD_cons_zero]
       omega
    ·split
     ·omega
     ·split
      ·rw [IntKind.wrap_i64]
       omega
      ·omega
theorem Ah9 {r:Aw} (hok:Gz r) (kind:Int) (line:ByteArray) (hl:line.size≤500):∀ p∈Oo r kind line,p.1.size≤20∧ -9223372036854775808≤p.2∧p.2≤9223372036854775807:=by
 intro p hp
 unfold Oo at hp
 obtain⟨it,hit,hm⟩:=List.mem_filterMap.1 hp
 have hwl:=O0 hl
 have his:it.size≤1000:=by
  unfold Yr at hit
  split at hit
  ·exact hwl.2 it hit
  ·rw [List.mem_singleton.1 hit];decide
 unfold Jc at hm
 split at hm
 ·obtain rfl:=Option.some.inj hm
  unfold Ux
  refine⟨?_,?_⟩
  ·show(I4 _).size≤20
   unfold I4
   rw [ByteArray.size_extract]
   omega
  ·have hv:=Amr (line:=line) (it:=it) (ws:=A7 line) (each:=r.each) (by omega) his hwl.2 (by omega) r.val hok.val.2.2 (by have:=hok.val.1;omega)
   show -9223372036854775808≤first kind _∧first kind _≤9223372036854775807
   unfold first
   split
   ·omega
   ·exact hv
 ·cases hm
theorem Ah8 {rs:List Aw} (hok:∀ r∈rs,Gz r) (kind:Int) (line:ByteArray) (hl:line.size≤500):∀ p∈Fm rs kind line,p.1.size≤20∧ -9223372036854775808≤p.2∧p.2≤9223372036854775807:=by
 intro p hp
 unfold Fm at hp
 obtain⟨r,hr,hp⟩:=List.mem_flatMap.1 hp
 exact Ah9 (hok r hr) kind line hl p hp
theorem Pg {rs:List Aw} (hok:∀ r∈rs,Gz r) (kind:Int) {lines:List ByteArray} (hl:∀ l∈lines,l.size≤500):∀ p∈Bf rs kind lines,p.1.size≤20∧ -9223372036854775808≤p.2∧p.2≤9223372036854775807:=by
 intro p hp
 unfold Bf at hp
 obtain⟨x,hx,hp⟩:=List.mem_flatMap.1 hp
 exact Ah8 hok kind x (hl x hx) p hp
end Go.Proofs.YtbibeionenjmfaaGreatDoor
namespace Go.Proofs.YtbibeionenjmfaaGreatDoor
open Go.RowKit
theorem Aea (rs:List Aw) (kind:Int) (line:ByteArray) (h:line.size≤150):(Fm rs kind line).length≤rs.length * 152:=by
 unfold Fm
 have h3:(A7 line).length≤151:=by
  rw [X9,List.length_map]
  have h4:=Fw line
  have:=Ya line.data.toList
  omega
 induction rs with
 | nil=> simp
 | cons r rs ih=>
   rw [List.flatMap_cons,List.length_append,List.length_cons,Nat.succ_mul]
   have h1:=Uy r kind line
   omega
theorem Jb (rs:List Aw) (kind:Int) (hr:rs.length≤4):∀ (lines:List ByteArray),(∀ l∈lines,l.size≤150)→(Bf rs kind lines).length≤lines.length * 608
 | [],_=> by simp [Bf]
 | a::l,h=> by
   have h1:=Jb rs kind hr l fun x hx=> h x (List.mem_cons_of_mem _ hx)
   have h2:=Aea rs kind a (h a List.mem_cons_self)
   have h3:=Nat.mul_le_mul_right 152 hr
   unfold Bf at h1 ⊢
   rw [List.flatMap_cons,List.length_append,List.length_cons,Nat.succ_mul]
   omega
def V0 (rs:List Aw) (fold:Int) (many:Nat) (lines:List ByteArray) (k:Nat):List Pr:=(P7 fold (Bf rs fold lines)).filter (Bh many k)
def Kf (rs:List Aw) (fold:Int) (many:Nat) (lines:List ByteArray):List ByteArray:=(List.range many).map fun k=> tx (Ct (V0 rs fold many lines k))
theorem Aef (rs:List Aw) (fold:Int) (many:Nat) (lines:List ByteArray):(Kf rs fold many lines).length=many:=by unfold Kf;rw [List.length_map,List.length_range]
theorem Abm {rs:List Aw} {fold:Int} {lines:List ByteArray} (hr:rs.length≤4) (hok:∀ r∈rs,Gz r) (hl:lines.length≤100) (hs:∀ l∈lines,l.size≤150):Nv (Bf rs fold lines):=by
 refine⟨by have:=Jb rs fold hr lines hs;omega,fun p hp=> ?_⟩
 have:=Pg hok fold (fun l h=> by have:=hs l h;omega) p hp
 omega
theorem Y3 {l:List Pr} (h:Nv l):Nv (Dz l):=⟨by rw [Fg];exact h.1,fun p hp=> h.2 p ((M1 l).subset hp)⟩
theorem Anx (k a b:Int) (ha: -9223372036854775808≤a∧a≤9223372036854775807) (hb: -9223372036854775808≤b∧b≤9223372036854775807): -9223372036854775808≤two k a b∧two k a b≤9223372036854775807:=by
 unfold two
 split
 ·omega
 ·split
  ·omega
  ·unfold wrap64;omega
theorem Afh {k:Int}:∀ (l o:List Pr),(∀ x∈o,x.1.size≤100000∧ -9223372036854775808≤x.2∧x.2≤9223372036854775807)→(∀ x∈l,x.1.size≤100000∧ -9223372036854775808≤x.2∧x.2≤9223372036854775807)→∀ x∈l.foldl (Cn k) o,x.1.size≤100000∧ -9223372036854775808≤x.2∧x.2≤9223372036854775807
 | [],o,ho,_=> ho
 | a::l,o,ho,hl=> by
   refine Afh l _ (fun x hx=> ?_) fun x hx=> hl x (List.mem_cons_of_mem _ hx)
   have ha:=hl a List.mem_cons_self
   rcases Gf o with rfl | ⟨S,q,rfl⟩
   ·rw [Ei] at hx
    rw [List.mem_singleton.1 hx];exact ha
   ·by_cases he:q.1=a.1
    ·rw [Cg he] at hx
     rcases List.mem_append.1 hx with hx | hx
     ·exact ho x (List.mem_append_left _ hx)
     ·rw [List.mem_singleton.1 hx]
      have hq:=ho q (by simp)
      exact⟨hq.1,Anx k _ _ hq.2 ha.2⟩
    ·rw [Cp he] at hx
     rcases List.mem_append.1 hx with hx | hx
     ·exact ho x hx
     ·rw [List.mem_singleton.1 hx];exact ha
theorem Anb {l:List Pr} (h:Nv l) (k:Int):Nv (P7 k l):=by
 refine⟨Nat.le_trans (D6 k _) (by rw [Fg];exact h.1),?_⟩
 exact Afh (Dz l) [] (fun x hx=> by cases hx) (Y3 h).2
theorem Y4 {l m:List Pr} (h:Nv l) (hs:m.Sublist l):Nv m:=⟨Nat.le_trans hs.length_le h.1,fun p hp=> h.2 p (hs.subset hp)⟩
end Go.Proofs.YtbibeionenjmfaaGreatDoor
namespace Go.Proofs.YtbibeionenjmfaaGreatDoor
open Go.RowKit
def D8 (w:World) (B:Nat) (ro:Option Addr) (rc:Nat) (rs:List Ao) (fold slices:Int) (early:Bool) (lines:List ByteArray) (n:Nat) (S:Nat→Prop) (v:Value):Prop:=
 ∃ g la lc va,v= .pointer (some ⟨g,0,none⟩)∧D4 w B g ro rc rs fold slices early lines n la lc va∧S g∧(∀ q,va.ownBlock=some q→S q)∧∀ b o,la=some ⟨b,o,none⟩→S b
section
variable {w w':World} {B:Nat} {ro:Option Addr} {rc:Nat} {rs:List Ao} {fold slices:Int} {early:Bool} {lines:List ByteArray} {n:Nat} {S T:Nat→Prop} {v:Value}
theorem D8.ptr (h:D8 w B ro rc rs fold slices early lines n S v):∃ g,v= .pointer (some ⟨g,0,none⟩):=by
 obtain⟨g,_,_,_,e,_⟩:=h
 exact⟨g,e⟩
theorem D8.more (h:D8 w B ro rc rs fold slices early lines n S v) (hs:∀ q,S q→T q):D8 w B ro rc rs fold slices early lines n T v:=by
 obtain⟨g,la,lc,va,e,h1,h2,h3,h4⟩:=h
 exact⟨g,la,lc,va,e,h1,hs g h2,fun q e=> hs q (h3 q e),fun b o e=> hs b (h4 b o e)⟩
theorem D4.kept {g:Nat} {la:Option Addr} {lc:Nat} {va:Value} (h:D4 w B g ro rc rs fold slices early lines n la lc va) (k:Ab T w w') (hg:¬ T g) (hv:∀ q,va.ownBlock=some q→¬ T q) (hl:∀ b o,la=some ⟨b,o,none⟩→¬ T b):D4 w' B g ro rc rs fold slices early lines n la lc va:=
 ⟨h.bk.kept k hg,h.lo,h.sl.kept k hl,k.own h.own hv,⟨h.apart.1,fun b o e=> ⟨⟨(h.apart.2 b o e).1.1,Nat.lt_of_lt_of_le (h.apart.2 b o e).1.2 k.size⟩,(h.apart.2 b o e).2⟩⟩,h.O9⟩
theorem D8.kept (h:D8 w B ro rc rs fold slices early lines n S v) (k:Ab T w w') (hs:∀ q,S q→¬ T q):D8 w' B ro rc rs fold slices early lines n S v:=by
 obtain⟨g,la,lc,va,e,h1,h2,h3,h4⟩:=h
 exact⟨g,la,lc,va,e,h1.kept k (hs g h2) (fun q e=> hs q (h3 q e)) (fun b o e=> hs b (h4 b o e)),h2,h3,h4⟩
theorem D8.later (h:D8 w B ro rc rs fold slices early lines n S v) (hb:Below w.heap.size w w'):D8 w' B ro rc rs fold slices early lines n S v:=by
 obtain⟨g,la,lc,va,e,h1,h2,h3,h4⟩:=h
 exact⟨g,la,lc,va,e,h1.later hb,h2,h3,h4⟩
end
theorem Ai8 (ro:Option Addr) (rc:Nat) (rs:List Ao) (fold slices:Int) (early:Bool) (d:Nat) (lo:Option Addr) (lc:Nat) (lines:List ByteArray) (w:World) (hj:Ae5 w ro rs d) (hl:rs.length≤maxLen) (hs:Sl 1 Cm w lo lines) (hn:lo=none→lc=0) (hok:Dv (rs.map Ao.v) fold slices=0) (h60:lines.length≤60):
 Calls Tryz.prog 75 #[.agg #[.slice ro rs.length rc, .int .i64 fold, .bool early, .int .i64 slices], .slice lo lines.length lc] w fun e w'=> (∃ v,e= .returned (.tuple #[v, .nilIface])∧D8 w' w.heap.size ro rc rs fold slices early lines 0 (fun q=> w.heap.size≤q∧q < w'.heap.size) v)∧Below w.heap.size w w':=by
 refine(Al3 ro rc rs fold slices early d lo lc lines w hj hl (by omega) hs hn hok h60).mono ?_
 rintro e w' ⟨⟨g,la,lc',rfl,h,hlo⟩,hb⟩
 exact⟨⟨_,rfl,g,la,lc',_,rfl,h,⟨h.lo,h.bk.lt⟩,fun q e=> by simp [Value.ownBlock] at e,fun b o e=> ⟨hlo b o e,(h.apart.2 b o e).1.2⟩⟩,hb⟩
theorem Ago {B:Nat} {ro:Option Addr} {rc:Nat} {rs:List Ao} {fold slices:Int} {early:Bool} {lines:List ByteArray} {n:Nat} {S:Nat→Prop} {v:Value} (d:Nat) (many:Int) (w:World) (hB:B≤w.heap.size) (hg:∀ w',Below B w w'→GM w') (hj:∀ w',Below B w w'→Ae5 w' ro rs d) (hok:O6 rs fold slices) (h:D8 w B ro rc rs fold slices early lines n S v) (hli:∀ l∈lines,l.size≤500) (hll:lines.length≤1000) (hmany:many≤9223372036854775807):
 Calls Tryz.prog 81 #[v, .int .i64 many] w fun e w'=> (e= .returned (.bool (decide (min (n+many.toNat) lines.length=lines.length)))∧D8 w' B ro rc rs fold slices early lines (min (n+many.toNat) lines.length) (fun q=> S q∨w.heap.size≤q) v)∧Ab S w w':=by
 obtain⟨g,la,lc,va,rfl,h1,h2,h3,h4⟩:=h
 refine(Agn d many w hB hg hj hok h1 hli hll hmany).mono ?_
 rintro e w' ⟨va',⟨rfl,k1,k2⟩,k3⟩
 exact⟨⟨rfl,g,la,lc,va',rfl,k1, .inl h2,fun q e=> (k2 q e).imp (h3 q) id,fun b o e=> .inl (h4 b o e)⟩,k3.mono fun q hq=> hq.elim (fun e=> e ▸ h2) (h3 q)⟩
theorem Zw {B:Nat} {ro:Option Addr} {rc:Nat} {rs:List Ao} {fold:Int} {many:Nat} {early:Bool} {lines:List ByteArray} {n:Nat} {S:Nat→Prop} {v:Value} (w:World) (h:D8 w B ro rc rs fold many early lines n S v) (hok:O6 rs fold many) (hli:∀ l∈lines,l.size≤500) (hll:lines.length≤1000):
 Calls Tryz.prog 85 #[v] w fun e w'=> ∃ ob vs,e= .returned (.slice (some ⟨ob,0,none⟩) many many)∧O7 w' w.heap.size ob vs (Ko fold early many (Bf (rs.map Ao.v) fold (lines.take n)))∧Below w.heap.size w w':=by
 obtain⟨g,la,lc,va,rfl,h1,h2,h3,h4⟩:=h
 have hm:=hok.slices
 have h5:=Qv (rs.map Ao.v) fold (by rw [List.length_map];exact hok.many.2) (lines.take n) (fun l hl=> hli l (List.mem_of_mem_take hl))
 rw [List.length_take] at h5
 refine Zv w h1 (by omega) (by omega) fun p hp=> ?_
 have:=(Pg (rs:=rs.map Ao.v) (by intro r hr;obtain⟨x,hx,rfl⟩:=List.mem_map.1 hr;exact hok.ok x hx) fold (lines:=lines.take n) (fun l hl=> hli l (List.mem_of_mem_take hl)) p hp).1
 unfold maxLen
 omega
end Go.Proofs.YtbibeionenjmfaaGreatDoor
namespace Go.Proofs.YtbibeionenjmfaaGreatDoor
open Go.RowKit
theorem Ah1 {w W:World} {B Bp g m n:Nat} {ro:Option Addr} {rc:Nat} {rs:List Ao} {fold slices:Int} {early:Bool} {lines:List ByteArray} {la:Option Addr} {lc:Nat} {va:Value} {O:List Pr} {pa:Option Addr} {pc:Nat} (h:D4 w B g ro rc rs fold slices early lines m la lc va) (hb:Below w.heap.size w W) (hB:B≤w.heap.size) (hn:n≤lines.length) (ho:Own 2 Bt 202 W Bp (.slice pa O.length pc) O) (hBp:w.heap.size≤Bp) (hO:O=Bf (rs.map Ao.v) fold (lines.take n)):
 D4 ((W.setCell ⟨g,5,none⟩ (.int .i64 (n:Int))).setCell ⟨g,6,none⟩ (.slice pa O.length pc)) B g ro rc rs fold slices early lines n la lc (.slice pa O.length pc)∧(∀ q,(Value.slice pa O.length pc).ownBlock=some q→w.heap.size≤q)∧Ab (fun q=> q=g) w ((W.setCell ⟨g,5,none⟩ (.int .i64 (n:Int))).setCell ⟨g,6,none⟩ (.slice pa O.length pc)):=by
 have hgw:=h.bk.lt
 have hlt:∀ q,(Value.slice pa O.length pc).ownBlock=some q→w.heap.size≤q:=fun q e=> Nat.le_trans hBp (ho.lt q e).1
 have hne:(Value.slice pa O.length pc).ownBlock≠some g:=fun e=> by have:=hlt g e;omega
 have hbk:=h.bk.later hb
 have h2:=hbk.set (k:=5) (u:= .int .i64 (m:Int)) (.int .i64 (n:Int)) rfl
 have h3:=h2.set (k:=6) (u:=va) (.slice pa O.length pc) rfl
 have hk1:Ab (fun q=> q=g) W ((W.setCell ⟨g,5,none⟩ (.int .i64 (n:Int))).setCell ⟨g,6,none⟩ (.slice pa O.length pc)):=
  ((Ab.refl (fun q=> q=g) W).setCell (p:=⟨g,5,none⟩) rfl _).setCell (p:=⟨g,6,none⟩) rfl _
 refine⟨⟨h3,h.lo,(h.sl.later hb (Nat.le_refl _)).kept hk1 (fun c o e=> (h.apart.2 c o e).1.1),?_,⟨hne,fun c o e=> ⟨⟨(h.apart.2 c o e).1.1,?_⟩,fun e2=> ?_⟩⟩,hn⟩,hlt,(Ab.Ai hb (Nat.le_refl _)).trans hk1⟩
 ·rw [←hO]
  exact((ho.B6 (Nat.le_trans hB hBp)).setOther hne _).setOther hne _
 ·have h4:=(h.apart.2 c o e).1.2
  have h5:=hb.size
  have h6:=hk1.size
  omega
 ·have h4:=hlt c e2
  have h5:=(h.apart.2 c o e).1.2
  omega
set_option maxRecDepth 100000 in
set_option maxHeartbeats 4000000 in
theorem Agl {B g m n:Nat} {ro:Option Addr} {rc:Nat} {rs:List Ao} {fold slices:Int} {early:Bool} {lines:List ByteArray} {la:Option Addr} {lc:Nat} {va:Value} (w:World) (hg:GW w) (hB:B≤w.heap.size) (h:D4 w B g ro rc rs fold slices early lines m la lc va) (hn:n≤lines.length) (hL:lines.length≤1000000) (O:List Pr) (hO:O=Bf (rs.map Ao.v) fold (lines.take n)) (hok:Nv O) (hs:(Gg n O).length≤10000000):
 Calls Tryz.prog 76 #[.pointer (some ⟨g,0,none⟩), .string (tx (Gg n O))] w fun e w'=> (e= .returned (.bool true)∧∃ va',D4 w' B g ro rc rs fold slices early lines n la lc va'∧∀ q,va'.ownBlock=some q→w.heap.size≤q)∧Ab (fun q=> q=g) w w':=by
 have HH:=Aa h
 have HO:=Aa hO
 have HC:=Aa (Sy (tx (Gg n O)) 10 w hg.gm (by rw [Am];exact hs))
 rw [Ap,Aby] at HC
 rw [Pu] at hs
 have HA:=Aa fun w' (hb:Below w.heap.size w w')=> V9 n w' (hg.later hb (Nat.le_refl _)) (by omega)
 have HI:=Aa fun w' (hb:Below w.heap.size w w')=> Gc (n:Int) w' (hg.later hb (Nat.le_refl _)) (by omega) (by omega)
 have HP:=Aa fun w' (hb:Below w.heap.size w w')=> Te O w' (hg.later hb (Nat.le_refl _)) hok (by omega)
 have HBASE:=Aa hB
 clear hg h hok hs hB hO
 generalize tx (Gg n O)=SV at *
 generalize tx (Lib.itoa (n:Int))=D at *
 generalize tx (Ct O)=TX at *
 have hdd:=Ag1 D
 go_enter Tryz.func76,Tryz.ntmps76
 go_wp2_with fail
 refine HC.out.mono ?_
 rintro e w1 ⟨rfl,b1⟩
 have HB:=Aa b1
 clear b1 HC
 go_wp2_with fail
 refine(HA.out _ HB.out).mono ?_
 rintro e w2 ⟨rfl,b2⟩
 replace HB:=Aa (HB.out.trans (b2.mono HB.out.size))
 clear b2 HA
 go_wp2_with fail
 have hbs2:=HB.out.size
 refine(HP.out _ HB.out).mono ?_
 rintro e w3 ⟨⟨pa,pc,rfl,po⟩,b3⟩
 replace HB:=Aa (HB.out.trans (b3.mono HB.out.size))
 have HPO:=Aa po
 have HBS:Hid (w.heap.size≤w2.heap.size):=hbs2
 clear b3 HP po hbs2
 have e1:decide ((n:Int) < 0)=false:=by simp
 have e2:decide ((lines.length:Int) < (n:Int))=false:=by simp;omega
 have e2':decide (lines.length < n)=false:=by simp;omega
 go_wp2_with fail
 refine(HI.out _ HB.out).mono ?_
 rintro e w4 ⟨rfl,b4⟩
 replace HB:=Aa (HB.out.trans (b4.mono HB.out.size))
 replace HPO:=Aa (HPO.out.later b4)
 clear b4 HI
 have hbk:=HH.out.bk.later HB.out
 have c4:=hbk.get (j:=4) rfl
 have c5:=hbk.get (j:=5) rfl
 have c6:=hbk.get (j:=6) rfl
 have z5:=hbk.fz 5
 have z6:=hbk.fz 6
 have HFIN:=Aa (Ah1 HH.out HB.out HBASE.out hn HPO.out HBS.out HO.out)
 clear hbk
 go_wp2
 go_ret
 exact⟨⟨rfl,_,HFIN.out.1,HFIN.out.2.1⟩,HFIN.out.2.2⟩
theorem Agm {B m n:Nat} {ro:Option Addr} {rc:Nat} {rs:List Ao} {fold slices:Int} {early:Bool} {lines:List ByteArray} {S:Nat→Prop} {v:Value} (w:World) (hg:GW w) (hB:B≤w.heap.size) (h:D8 w B ro rc rs fold slices early lines m S v) (hn:n≤lines.length) (hL:lines.length≤1000000) (hok:Nv (Bf (rs.map Ao.v) fold (lines.take n))) (hs:(Ct (Bf (rs.map Ao.v) fold (lines.take n))).length≤9000000):
 Calls Tryz.prog 76 #[v, .string (tx (Gg n (Bf (rs.map Ao.v) fold (lines.take n))))] w fun e w'=> (e= .returned (.bool true)∧D8 w' B ro rc rs fold slices early lines n (fun q=> S q∨w.heap.size≤q) v)∧Ab S w w':=by
 obtain⟨g,la,lc,va,rfl,h1,h2,h3,h4⟩:=h
 have hl:(Lib.itoa (n:Int)).length≤20:=C4 (by omega) (by omega)
 refine(Agl w hg hB h1 hn hL _ rfl hok (by rw [Pu];omega)).mono ?_
 rintro e w' ⟨⟨rfl,va',k1,k2⟩,k3⟩
 exact⟨⟨rfl,g,la,lc,va',rfl,k1, .inl h2,fun q e=> .inr (k2 q e),fun b o e=> .inl (h4 b o e)⟩,k3.mono fun q e=> e ▸ h2⟩
end Go.Proofs.YtbibeionenjmfaaGreatDoor
namespace Go.Proofs.YtbibeionenjmfaaGreatDoor
open Go.RowKit
def Gv (w:World) (B:Nat) (kind:Int) (L:List Pr) (c:Nat) (S LS:Nat→Prop) (v:Value):Prop:=
 ∃ g n la lc va,v= .pointer (some ⟨g,0,none⟩)∧Hx w B g kind L n ((Ae kind L).take c) la lc va∧Fa kind L n c∧c≤(Ae kind L).length∧S g∧(∀ q,va.ownBlock=some q→S q)∧(∀ b o,la=some ⟨b,o,none⟩→LS b)∧g < w.heap.size
theorem Gv.Apv {w:World} {B:Nat} {kind:Int} {L:List Pr} {c:Nat} {S LS:Nat→Prop} {v:Value} (h:Gv w B kind L c S LS v) (hL:∀ q,LS q→q < w.heap.size):Apg w B kind L c S v:=by
 obtain⟨g,n,la,lc,va,e,h1,h2,h3,h4,h5,h6,_⟩:=h
 exact⟨g,n,la,lc,va,e,h1,h2,h3,h4,h5,fun b o e=> hL b (h6 b o e)⟩
theorem Gv.kept {w w':World} {B:Nat} {kind:Int} {L:List Pr} {c:Nat} {S LS T:Nat→Prop} {v:Value} (h:Gv w B kind L c S LS v) (k:Ab T w w') (hs:∀ q,S q→¬ T q) (hl:∀ q,LS q→¬ T q):Gv w' B kind L c S LS v:=by
 obtain⟨g,n,la,lc,va,e,h1,h2,h3,h4,h5,h6,h7⟩:=h
 exact⟨g,n,la,lc,va,e,⟨h1.bk.kept k (hs g h4),h1.lo,h1.sl.kept k fun b o e=> hl b (h6 b o e),k.own h1.own fun q e=> hs q (h5 q e),h1.apart,h1.O9⟩,h2,h3,h4,h5,h6,Nat.lt_of_lt_of_le h7 k.size⟩
theorem Gv.later {w w':World} {B:Nat} {kind:Int} {L:List Pr} {c:Nat} {S LS:Nat→Prop} {v:Value} (h:Gv w B kind L c S LS v) (hb:Below w.heap.size w w'):Gv w' B kind L c S LS v:=
 h.kept (Ab.Ai (S:=fun _=> False) hb (Nat.le_refl _)) (fun _ _ h=> h) fun _ _ h=> h
theorem Gv.ptr {w:World} {B:Nat} {kind:Int} {L:List Pr} {c:Nat} {S LS:Nat→Prop} {v:Value} (h:Gv w B kind L c S LS v):∃ g,v= .pointer (some ⟨g,0,none⟩):=by
 obtain⟨g,n,la,lc,va,e,_⟩:=h
 exact⟨g,e⟩
theorem Ai9 (kind:Int) (ao:Option Addr) (cap:Nat) (rs:List Qe) (w:World) (hk:Ek kind=0) (hl:rs.length≤100000) (htot:(Cz rs).flatten.length≤100000000) (hr:∀ l∈Cz rs,Bl l) (hs:Sl 1 Kb w ao rs) (hrow:∀ r∈rs,Sl 2 Bt w r.1 r.2.2):
 Calls Tryz.prog 73 #[.int .i64 kind, .slice ao rs.length cap] w fun e w'=> (∃ g,e= .returned (.tuple #[.pointer (some ⟨g,0,none⟩), .nilIface])∧Gv w' w.heap.size kind (Dz (Cz rs).flatten) 0 (fun q=> w.heap.size≤q∧q < w'.heap.size) (fun q=> w.heap.size≤q∧q < w'.heap.size) (.pointer (some ⟨g,0,none⟩)))∧Below w.heap.size w w':=by
 refine(Al4 kind ao cap rs w hk hl htot hr hs hrow).mono ?_
 rintro e w' ⟨⟨g,la,lc,rfl,h,hla⟩,hb⟩
 exact⟨⟨g,rfl,g,0,la,lc,_,rfl,by rw [List.take_zero];exact h,Fa.zero,Nat.zero_le _,⟨h.lo,h.bk.lt⟩,fun q e=> by simp [Value.ownBlock] at e,hla,h.bk.lt⟩,hb⟩
theorem Agx {B:Nat} {kind:Int} {L:List Pr} {c:Nat} {S LS:Nat→Prop} {v:Value} (many:Int) (w:World) (hB:B≤w.heap.size) (h:Gv w B kind L c S LS v) (hL:L.length≤1000000) (hmany:many≤9223372036854775807):
 Calls Tryz.prog 80 #[v, .int .i64 many] w fun e w'=> (e= .returned (.bool (decide (min (c+many.toNat) (Ae kind L).length=(Ae kind L).length)))∧Gv w' B kind L (min (c+many.toNat) (Ae kind L).length) (fun q=> (S q∨w.heap.size≤q)∧q < w'.heap.size) LS v)∧Ab S w w':=by
 obtain⟨g,n,la,lc,va,rfl,h1,h2,h3,h4,h5,h6,h7⟩:=h
 refine(Ajf many w hB h1 h2 hL hmany).mono ?_
 rintro e w' ⟨n',va',⟨rfl,k1,k2,k3⟩,k4⟩
 obtain⟨k5,k6⟩:=k2.cap
 have hk:=k4.mono (T:=S) fun q hq=> hq.elim (fun e=> e ▸ h4) (h5 q)
 refine⟨⟨?_,g,n',la,lc,va',rfl,by rw [←k6];exact k1,k5,Nat.min_le_right _ _,⟨.inl h4,Nat.lt_of_lt_of_le h7 k4.size⟩,fun q e=> ⟨(k3 q e).imp (h5 q) id,(k1.own.lt q e).2⟩,h6,Nat.lt_of_lt_of_le h7 k4.size⟩,hk⟩
 refine J1 (decide_eq_decide.2 (Iff.trans ⟨fun h=> ?_,fun h=> ?_⟩ k5.over.symm)) <;> omega
end Go.Proofs.YtbibeionenjmfaaGreatDoor
namespace Go.Proofs.YtbibeionenjmfaaGreatDoor
open Go.RowKit
def Nx (fold:Int) (early:Bool) (many:Nat) (L:List Pr) (n:Nat):List Pr:=if early=true then P7 fold (L.filter (Bh many n)) else Dz (L.filter (Bh many n))
theorem Aha {fold:Int} {early:Bool} {many n:Nat} {L l:List Pr} (h:n < many) (hl:(Ko fold early many L)[n]?=some l):l=Nx fold early many L n:=by
 rw [Tt h] at hl
 exact(Option.some.inj hl).symm
theorem Ac9 (fold:Int) (early:Bool) (many:Nat) (L:List Pr) (n:Nat):Bl (Nx fold early many L n):=by
 unfold Nx
 split
 ·exact(Aau _ _).imp fun h=> Hs h
 ·exact Ft _
theorem Ajz {fold:Int} {early:Bool} {many n:Nat} {L:List Pr} (h:Nv L):Nv (Nx fold early many L n):=by
 unfold Nx
 split
 ·exact Anb (Y4 h List.filter_sublist) fold
 ·exact Y3 (Y4 h List.filter_sublist)
theorem Wm (fold:Int) (early:Bool) (many:Nat) (L:List Pr) (n:Nat):(Nx fold early many L n).length≤L.length:=by
 unfold Nx
 split
 ·unfold P7
  refine Nat.le_trans (D6 _ _) ?_
  rw [Fg]
  exact List.length_filter_le _ _
 ·rw [Fg]
  exact List.length_filter_le _ _
theorem Hw (rs:List Aw) (fold:Int):∀ (CS:List (List ByteArray)),Bf rs fold CS.flatten=(CS.map (Bf rs fold)).flatten
 | []=> rfl
 | c::CS=> by rw [List.flatten_cons,Yx,Hw rs fold CS];rfl
def given (rs:List Aw) (fold:Int) (early:Bool) (many:Nat) (CS:List (List ByteArray)) (n:Nat):List (List Pr):=CS.map fun c=> Nx fold early many (Bf rs fold c) n
theorem Adi {rs:List Aw} {fold:Int} {early:Bool} {many:Nat} {CS:List (List ByteArray)} {n:Nat}:∀ l∈given rs fold early many CS n,Bl l:=fun l hl=> by
 obtain⟨c,_,rfl⟩:=List.mem_map.1 hl
 exact Ac9 _ _ _ _ _
theorem I9 {α β:Type} {f g:α→List β} (h:∀ c,(f c).length≤(g c).length):∀ (CS:List α),(CS.map f).flatten.length≤(CS.map g).flatten.length
 | []=> Nat.le_refl _
 | c::CS=> by
   have h1:=I9 h CS
   have h2:=h c
   simp only [List.map_cons,List.flatten_cons,List.length_append]
   omega
theorem Aj3 {rs:List Aw} {fold:Int} {early:Bool} {many:Nat} {CS:List (List ByteArray)} {n:Nat} (h:Nv (Bf rs fold CS.flatten)):Nv (given rs fold early many CS n).flatten:=by
 rw [Hw] at h
 refine⟨Nat.le_trans (I9 (fun c=> Wm fold early many (Bf rs fold c) n) CS) h.1,fun p hp=> ?_⟩
 obtain⟨l,hl,hp⟩:=List.mem_flatten.1 hp
 obtain⟨c,hc,rfl⟩:=List.mem_map.1 hl
 exact(Ajz (Y4 h (List.sublist_flatten_of_mem (List.mem_map.2 ⟨c,hc,rfl⟩)))).2 p hp
theorem Ahf {rs:List Aw} {fold:Int} {early:Bool} {many:Nat} {CS:List (List ByteArray)} {n:Nat} (hn:n < many):Ae fold (Dz (given rs fold early many CS n).flatten)=V0 rs fold many CS.flatten n:=by
 have h1:=Xo (fold:=fold) (early:=early) hn (CS.map (Bf rs fold)) (given rs fold early many CS n) (by unfold given;rw [List.length_map,List.length_map]) (by
  intro i l s hl hs
  unfold given at hs
  rw [List.getElem?_map] at hl hs
  cases hc:CS[i]? with
  | none=> rw [hc] at hl;cases hl
  | some c=>
    rw [hc] at hl hs
    obtain rfl:=Option.some.inj hl
    obtain rfl:=Option.some.inj hs
    rw [Tt hn]
    rfl)
 unfold V0
 rw [Adj (Rq many n) fold,Hw,←h1]
 rfl
end Go.Proofs.YtbibeionenjmfaaGreatDoor
namespace Go.Proofs.YtbibeionenjmfaaGreatDoor
open Go.RowKit
theorem Aas (k:Int) {l:List Pr} (hl:l.length≤60800) (h:∀ p∈l,p.1.size≤60∧ -9223372036854775808≤p.2∧p.2≤9223372036854775807) (c:Nat):(Ct ((Ae k l).take c)).length≤9000000:=by
 have h1:∀ p∈Ae k l,p.1.size≤60∧ -9223372036854775808≤p.2∧p.2≤9223372036854775807:=
  Oj k _ (fun q p hq hp _=> ⟨hq.1,Aey k q.2 p.2 hq.2 hp.2⟩) l h
 have h2:=M6 ((Ae k l).take c) fun p hp=> h1 p (List.mem_of_mem_take hp)
 have h3:=D6 k l
 rw [List.length_take] at h2
 omega
end Go.Proofs.YtbibeionenjmfaaGreatDoor
