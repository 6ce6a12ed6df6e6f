/- A reader of a line: a rule. -/
import Derived.Test.YtbibeionenjmfaaGreatDoorZJQuoted
import Derived.Test.YtbibeionenjmfaaGreatDoorZJobCheck2
import Derived.Test.YtbibeionenjmfaaGreatDoorZHeldC
set_option linter.unusedSimpArgs false
set_option linter.unusedVariables false
namespace Go.Proofs.YtbibeionenjmfaaGreatDoor
open Go.RowKit
def Nt (S:Nat→Prop) (w:World):Nat→Ah→List Value→Prop
 | 0,_,_=> False
 | d+1, .mk k n s a,cs=> ∃ ao cap,cs=Mh k n s ao a.length cap∧(-9223372036854775808≤k∧k≤9223372036854775807)∧(-9223372036854775808≤n∧n≤9223372036854775807)∧s.size≤maxLen∧a.length≤maxLen∧Mf (Nt S w d) w ao a∧∀ b o,ao=some ⟨b,o,none⟩→S b∧b < w.heap.size
theorem Nt.at {S:Nat→Prop} {w:World}:∀ {d:Nat} {e:Ah} {cs:List Value},Nt S w d e cs→Ip w d e cs
 | 0,_,_,h=> h
 | d+1, .mk k n s a,cs,h=> by
   obtain⟨ao,cap,e,h1,h2,h3,h4,h5,_⟩:=h
   refine⟨ao,cap,e,h1,h2,h3,h4,fun i x hi=> ?_⟩
   obtain⟨b,off,q,e1,hlt,hc,hq⟩:=h5 i x hi
   exact⟨b,off,q,e1,hlt,hc,hq.at⟩
theorem Nt.kept {S T:Nat→Prop} {w w':World} (k:Ab T w w') (hs:∀ q,S q→¬ T q):∀ {d:Nat} {e:Ah} {cs:List Value},Nt S w d e cs→Nt S w' d e cs
 | 0,_,_,h=> h
 | d+1, .mk k0 n s a,cs,h=> by
   obtain⟨ao,cap,e,h1,h2,h3,h4,h5,h6⟩:=h
   refine⟨ao,cap,e,h1,h2,h3,h4,fun i x hi=> ?_,fun b o e1=> ⟨(h6 b o e1).1,Nat.lt_of_lt_of_le (h6 b o e1).2 k.size⟩⟩
   obtain⟨b,off,q,e1,hlt,hc,hq⟩:=h5 i x hi
   have hb:=h6 b off e1
   exact⟨b,off,q,e1,by have:=k.size;omega,fun j u hj=> k.cell (hc j u hj) (hs b hb.1),hq.kept k hs⟩
theorem Nt.mono {S T:Nat→Prop} {w:World} (hs:∀ q,S q→T q):∀ {d:Nat} {e:Ah} {cs:List Value},Nt S w d e cs→Nt T w d e cs
 | 0,_,_,h=> h
 | d+1, .mk k0 n s a,cs,h=> by
   obtain⟨ao,cap,e,h1,h2,h3,h4,h5,h6⟩:=h
   refine⟨ao,cap,e,h1,h2,h3,h4,fun i x hi=> ?_,fun b o e1=> ⟨hs _ (h6 b o e1).1,(h6 b o e1).2⟩⟩
   obtain⟨b,off,q,e1,hlt,hc,hq⟩:=h5 i x hi
   exact⟨b,off,q,e1,hlt,hc,hq.mono hs⟩
theorem Nt.later {S:Nat→Prop} {w w':World} (hb:Below w.heap.size w w') {d:Nat} {e:Ah} {cs:List Value} (h:Nt S w d e cs):Nt S w' d e cs:=
 h.kept (Ab.Ai (S:=fun _=> False) hb (Nat.le_refl _)) fun _ _ h=> h
theorem Gy.Qh (e:Gy):e.cells.length=4:=rfl
theorem Anf:∀ x:Gy,∀ u∈x.cells,u.oneCell'=true:=fun x u h=> by
 simp only [Gy.cells,Mh,List.mem_cons,List.not_mem_nil,or_false] at h
 rcases h with rfl | rfl | rfl | rfl <;> rfl
theorem Akk {S:Nat→Prop} {w:World} {base d:Nat} {ao:Option Addr} {n cap:Nat} {l:List Gy} (ho:Own 4 Gy.cells 191 w base (.slice ao n cap) l) (hl:∀ r∈l,Nt S w d r.tree r.cells) (hS:∀ q,base≤q→S q):
 Mf (Nt S w d) w ao (l.map Gy.tree)∧∀ b o,ao=some ⟨b,o,none⟩→S b∧b < w.heap.size:=by
 refine⟨fun i x hi=> ?_,fun b o e=> ?_⟩
 ·rw [List.getElem?_map] at hi
  obtain⟨r,hr,rfl⟩:=Option.map_eq_some_iff.1 hi
  have h0:0 < l.length:=by have:=(List.getElem?_eq_some_iff.1 hr).1;omega
  obtain⟨g,cap',e,hb,hg,hc,_⟩:=ho.addr h0
  injection e with e1 e2 e3
  subst e1
  refine⟨g,0,r.cells,rfl,hg,fun j u hj=> ?_,hl r (List.mem_of_getElem? hr)⟩
  have h1:=H4 Gy.Qh hr hj
  have hlt:i * 4+j < l.length * 4:=by
   have h2:=(List.getElem?_eq_some_iff.1 hr).1
   have h3:=(List.getElem?_eq_some_iff.1 hj).1
   rw [Gy.Qh] at h3
   omega
  rcases hc (i * 4+j) with h2 | h2
  ·rw [Nat.zero_add,h2];exact h1
  ·omega
 ·subst e
  rcases ho.shape with ⟨h1,_⟩ | ⟨g,c,h1,_,h2,h3⟩
  ·cases h1
  ·injection h1 with h1
   cases h1
   exact⟨hS _ h2,h3⟩
theorem Ahl:(Tryz.prog.info? 191).map (fun i=> (i.zero,i.size,i.bytes))=some (some (.agg #[.int .i64 0, .int .i64 0, .string ⟨#[]⟩, .slice none 0 0]),4,56):=by kernel_rfl
def F7 (w:List UInt8) (left:Lit→Bool) (k:Int):Prop:=k=if left (.int .i64 (Cl w))=true∨Cl w=0 then 0 else Cl w
theorem Rv (w:List UInt8):0≤Cl w∧Cl w≤10:=by
 unfold Cl
 repeat' split
 all_goals omega
theorem Akl {w:List UInt8} (h:Cl w≠0):A8 (Cl w)=w:=by
 unfold Cl at h ⊢
 repeat' split
 all_goals first | (rename_i h1;exact h1.symm) | skip
 all_goals simp_all
theorem F7.start (w:List UInt8):F7 w (Maps.has Jd) 0:=by
 unfold F7
 have h:=Rv w
 have h1:Cl w=0∨Cl w=1∨Cl w=2∨Cl w=3∨Cl w=4∨Cl w=5∨Cl w=6∨Cl w=7∨Cl w=8∨Cl w=9∨Cl w=10:=by omega
 rcases h1 with h1 | h1 | h1 | h1 | h1 | h1 | h1 | h1 | h1 | h1 | h1 <;> rw [h1]
 ·simp
 all_goals exact(if_pos (.inl (by decide))).symm
theorem F7.done {w:List UInt8} {left:Lit→Bool} {k:Int} (h:F7 w left k) (hl:∀ kl,left kl=false):k=Cl w:=by
 unfold F7 at h
 rw [hl] at h
 simp at h
 by_cases e:Cl w=0
 ·rw [h,if_pos e,e]
 ·rw [h,if_neg e]
theorem Ah2 {x:Int} {c:List UInt8} (h:∀ zd,DataW.atKey Jd (.int .i64 x) zd= .lit (.string c)):(1≤x∧x≤10)∧c=A8 x:=by
 by_cases hx:1≤x∧x≤10
 ·refine⟨hx,?_⟩
  have h1:x=1∨x=2∨x=3∨x=4∨x=5∨x=6∨x=7∨x=8∨x=9∨x=10:=by omega
  have h2:=h (.map [])
  rcases h1 with rfl | rfl | rfl | rfl | rfl | rfl | rfl | rfl | rfl | rfl <;> (injection h2 with h2;injection h2 with h2;exact h2.symm)
 ·exfalso
  have e:∀ zd,DataW.atKey Jd (.int .i64 x) zd=zd:=fun zd=> by
   have hf:Akx.find? (fun p=> p.1.sameKey (.int .i64 x))=none:=by
    rw [List.find?_eq_none]
    intro p hp
    obtain⟨k,hk,rfl⟩:=List.mem_map.1 hp
    simp only [List.mem_cons,List.not_mem_nil,or_false] at hk
    have:k≠x:=by omega
    simp [Lit.sameKey,this]
   simp only [DataW.atKey,Jd,hf]
  have h3:=(e (.lit (.bool true))).symm.trans (h _)
  cases h3
theorem Sg (a b:Int):Lit.sameKey (.int .i64 a) (.int .i64 b)=decide (a=b):=by
 unfold Lit.sameKey
 by_cases h:a=b <;> simp [h]
theorem F7.hit {w:List UInt8} {left:Lit→Bool} {k x:Int} (_:F7 w left k) (hx:1≤x∧x≤10) (hw:A8 x=w):F7 w (fun z=> left z && !z.sameKey (.int .i64 x)) x:=by
 have e:Cl w=x:=by rw [←hw];exact Ud hx
 unfold F7
 simp only [e,Sg]
 simp
 try omega
theorem F7.Aqb {w:List UInt8} {left:Lit→Bool} {k x:Int} (h:F7 w left k) (hx:1≤x∧x≤10) (hw:A8 x≠w):F7 w (fun z=> left z && !z.sameKey (.int .i64 x)) k:=by
 unfold F7 at *
 by_cases h0:Cl w=0
 ·rw [h,if_pos (.inr h0),if_pos (.inr h0)]
 ·have e:Cl w≠x:=fun e=> hw (by rw [←e];exact Akl h0)
  rw [h]
  simp only [Sg]
  simp [e]
theorem Ael {H:Type} {P:Program} {k:TypeId} {R:Value→Option (DataW H×List MemPlace)} {w:World} {b r n:Nat} {D:DataW H} {left:Lit→Bool} {Vu:Nat} (h:w.ranges P k R b r n D left Vu) {e j:Nat} (hb:b≠e) (hr:r≠e) (v:Value):(w.setCell ⟨e,j,none⟩ v).ranges P k R b r n D left Vu:=by
 have k:=(Ab.refl (fun q=> q=e) w).setCell (p:=⟨e,j,none⟩) rfl v
 exact h.kept (row:=some e) ⟨k.os,k.tape,k.output,k.size,fun i hi hne=> k.block i hi fun e2=> hne (by rw [e2])⟩ (by simpa using hb) (by simpa using hr)
theorem Z5 {w w':World} (h:w.grownBy w' none):Below w.heap.size w w':=⟨h.os,h.tape,h.output,h.size,fun k hk=> h.block k hk (by simp)⟩
theorem Ads {S:Nat→Prop} {w w':World} {r:Nat} (h:w.grownBy w' (some r)) (hr:S r):Ab S w w':=Ab.A9 h fun k e=> by cases e;exact hr
theorem U0:∀ (l:List UInt8) {t r:List UInt8},Gn l=some (t,r)→t.length≤l.length∧r.length≤l.length
 | [],t,r,h=> by cases h
 | [c],t,r,h=> by
   unfold Gn at h
   split at h
   ·cases h;simp
   ·cases h
 | c::d::l,t,r,h=> by
   unfold Gn at h
   split at h
   ·obtain⟨p,hp,e⟩:=Option.map_eq_some_iff.1 h
    cases e
    have:=U0 l hp
    simp only [List.length_cons];omega
   ·split at h
    ·cases h;simp
    ·obtain⟨p,hp,e⟩:=Option.map_eq_some_iff.1 h
     cases e
     have:=U0 (d::l) hp
     simp only [List.length_cons] at this ⊢;omega
theorem Sc (s:List UInt8):(Bz s).1.length≤s.length∧(Bz s).2.1.length≤s.length:=by
 by_cases h: [34].isPrefixOf s=true
 ·cases hq:Gn (s.drop 1) with
  | none=> rw [Pq h hq];simp
  | some p=>
    obtain⟨t,r⟩:=p
    rw [Ps h hq]
    have h1:=U0 _ hq
    rw [List.length_drop] at h1
    have h2:(Ay [] r).length≤r.length:=by unfold Ay;split <;> simp
    dsimp only
    omega
 ·rw [U2 (Bool.eq_false_iff.2 h)];simp
theorem Abl (k:Int) (s:List UInt8):(Pm k s).2.1.length≤s.length:=by
 unfold Pm
 split
 ·exact(I3 s).2
 ·exact Nat.le_refl _
theorem Am8 (k:Int) (s:List UInt8): -9223372036854775808≤(Pm k s).1∧(Pm k s).1≤9223372036854775807:=by
 unfold Pm
 split
 ·exact Tl
 ·exact⟨by show -9223372036854775808≤(0:Int);decide,by show(0:Int)≤9223372036854775807;decide⟩
theorem Ab7 (k:Int) (s:List UInt8):(Zi k s).1.length≤s.length∧(Zi k s).2.1.length≤s.length:=by
 unfold Zi
 split
 ·exact Sc s
 ·simp
theorem Lw (rd:List UInt8→Ah×List UInt8×Bool) (s:List UInt8):∀ m,Bo rd m s true=([],s,true)
 | 0=> rfl
 | m+1=> by rw [Bo,if_pos rfl]
theorem Ak6 (f:Nat) (s:List UInt8) (bad:Bool) (k n:Int) (t s3:List UInt8) (b1 b2:Bool) (h:((Je s).1,(Je s).2.1,(Je s).2.2.1,(Je s).2.2.2.1)=(k,n,t,s3)) (hb:∀ q,q=(bad || (decide (f=0) || (Je s).2.2.2.2))→q=b2):
 Bq f s bad=(.mk k n (tx t) (Bo (fun s=> Bq (f - 1) s false) (Mr k) s3 b2).1,(Bo (fun s=> Bq (f - 1) s false) (Mr k) s3 b2).2):=by
 simp only [Prod.mk.injEq] at h
 obtain⟨h1,h2,h3,h4⟩:=h
 have hb2:=hb _ rfl
 cases f with
 | zero=>
   have:b2=true:=by rw [←hb2];simp
   rw [Bq,h1,h2,h3,h4,this,Lw]
 | succ f=>
   have e:(bad || (Je s).2.2.2.2)=b2:=by rw [←hb2];simp
   rw [Bq]
   simp only [h1,h2,h3,h4,e]
   rfl
theorem Pt {rd:List UInt8→Ah×List UInt8×Bool} (h:∀ s,(rd s).2.1.length≤s.length):∀ (m:Nat) (s:List UInt8) (b:Bool),(Bo rd m s b).2.1.length≤s.length
 | 0,s,b=> Nat.le_refl _
 | m+1,s,b=> by
   rw [Bo]
   split
   ·exact Nat.le_refl _
   ·exact Nat.le_trans (Pt h m _ _) (h s)
theorem Abo (s:List UInt8):(Je s).2.2.2.1.length≤s.length:=by
 unfold Je
 have h1:=(I3 s).2
 have h2:=Abl (Cl (Ax s).1) (Ax s).2
 have h3:=(Ab7 (Cl (Ax s).1) (Pm (Cl (Ax s).1) (Ax s).2).2.1).2
 dsimp only
 omega
theorem Kz:∀ (f:Nat) (s:List UInt8) (b:Bool),(Bq f s b).2.1.length≤s.length
 | 0,s,b=> Abo s
 | f+1,s,b=> by
   rw [Bq]
   exact Nat.le_trans (Pt (fun s=> Kz f s false) _ _ _) (Abo s)
theorem Nt.bound {S:Nat→Prop} {w:World}:∀ {d:Nat} {e:Ah} {cs:List Value},Nt S w d e cs→Nt (fun q=> S q∧q < w.heap.size) w d e cs
 | 0,_,_,h=> h
 | d+1, .mk k0 n s a,cs,h=> by
   obtain⟨ao,cap,e,h1,h2,h3,h4,h5,h6⟩:=h
   refine⟨ao,cap,e,h1,h2,h3,h4,fun i x hi=> ?_,fun b o e1=> ⟨⟨(h6 b o e1).1,(h6 b o e1).2⟩,(h6 b o e1).2⟩⟩
   obtain⟨b,off,q,e1,hlt,hc,hq⟩:=h5 i x hi
   exact⟨b,off,q,e1,hlt,hc,hq.bound⟩
structure Lg (w:World) (base d:Nat) (v:Value) (l:List Gy):Prop where
 own:Own 4 Gy.cells 191 w base v l
 kids:∀ r∈l,Nt (fun q=> base≤q∧v.ownBlock≠some q) w d r.tree r.cells
theorem Lg.nil {w:World} {base d:Nat}:Lg w base d (.slice none 0 0) []:=⟨Own.nil,fun r hr=> by cases hr⟩
theorem Lg.put {wr A w2:World} {base d rb eb k:Nat} {v v' u:Value} {l:List Gy} {r:Gy} (h:Lg wr base d v l) (hrb:rb < base) (heb:eb < base) (hbs:base≤wr.heap.size) (hA:Ab (fun q=> q=rb) wr A) (hr:Nt (fun q=> wr.heap.size≤q) A d r.tree r.cells)
 (ho:Own 4 Gy.cells 191 w2 base v' (l++ [r])) (hg:A.grownBy w2 v.ownBlock) (hat:v'.ownBlock=v.ownBlock∨v'.ownBlock=some A.heap.size):
 Lg (w2.setCell ⟨eb,k,none⟩ u) base d v' (l++ [r]):=by
 have hk2:Ab (fun q=> v.ownBlock=some q) A w2:=Ab.A9 hg fun q e=> e
 have hk3:=(Ab.refl (fun q=> q=eb) w2).setCell (p:=⟨eb,k,none⟩) rfl u
 have all:∀ x:Gy,Nt (fun q=> base≤q∧v.ownBlock≠some q) A d x.tree x.cells→Nt (fun q=> base≤q∧v'.ownBlock≠some q) (w2.setCell ⟨eb,k,none⟩ u) d x.tree x.cells:=fun x hx=> by
  have h1:=(hx.bound.kept hk2 fun q hq e=> hq.1.2 e).mono (T:=fun q=> base≤q∧v'.ownBlock≠some q) fun q hq=> ⟨hq.1.1,fun e=> by
   rcases hat with e2 | e2
   ·exact hq.1.2 (e2 ▸ e)
   ·rw [e2] at e
    have h3:=Option.some.inj e
    have h4:=hq.2
    omega⟩
  exact h1.kept hk3 fun q hq e=> by have:=hq.1;omega
 refine⟨ho.setOther (fun e=> by have:=(ho.lt eb e).1;omega) u,fun x hx=> all x ?_⟩
 rcases List.mem_append.1 hx with hx | hx
 ·exact(h.kids x hx).kept hA fun q hq e=> by have:=hq.1;omega
 ·rw [List.mem_singleton.1 hx]
  exact hr.mono fun q hq=> ⟨by omega,fun e=> by have:=(h.own.lt q e).2;omega⟩
theorem Bk.Ou {w:World} {b:Nat} {a0 a1 a2 a3:Value} (v0 v1 v2 v3:Value) (h:Bk w b [a0,a1,a2,a3]):Bk ((((w.setCell ⟨b,0,none⟩ v0).setCell ⟨b,1,none⟩ v1).setCell ⟨b,2,none⟩ v2).setCell ⟨b,3,none⟩ v3) b [v0,v1,v2,v3]:=
 (((h.set (k:=0) (u:=a0) v0 rfl).set (k:=1) (u:=a1) v1 rfl).set (k:=2) (u:=a2) v2 rfl).set (k:=3) (u:=a3) v3 rfl
theorem Qt {S:Nat→Prop} {w W:World} {b:Nat} (v0 v1 v2 v3:Value) (h:Ab S w W) (hb:S b∨w.heap.size≤b):Ab S w ((((W.setCell ⟨b,0,none⟩ v0).setCell ⟨b,1,none⟩ v1).setCell ⟨b,2,none⟩ v2).setCell ⟨b,3,none⟩ v3):=by
 rcases hb with hb | hb
 ·exact(((h.setCell (p:=⟨b,0,none⟩) hb _).setCell (p:=⟨b,1,none⟩) hb _).setCell (p:=⟨b,2,none⟩) hb _).setCell (p:=⟨b,3,none⟩) hb _
 ·exact(((h.Es (p:=⟨b,0,none⟩) hb _).Es (p:=⟨b,1,none⟩) hb _).Es (p:=⟨b,2,none⟩) hb _).Es (p:=⟨b,3,none⟩) hb _
theorem Lg.tree {w:World} {base d:Nat} {ea:Option Addr} {ec:Nat} {l:List Gy} {k n:Int} {t:ByteArray} {S:Nat→Prop} (h:Lg w base d (.slice ea l.length ec) l) (hk: -9223372036854775808≤k∧k≤9223372036854775807) (hn: -9223372036854775808≤n∧n≤9223372036854775807) (ht:t.size≤maxLen) (hl:l.length≤maxLen) (hS:∀ q,base≤q→S q):
 Nt S w (d+1) (.mk k n t (l.map Gy.tree)) (Mh k n t ea (l.map Gy.tree).length ec):=by
 obtain⟨h1,h2⟩:=Akk (S:=S) h.own (fun r hr=> (h.kids r hr).mono fun q hq=> hS q hq.1) hS
 exact⟨ea,ec,rfl,hk,hn,ht,by rw [List.length_map];exact hl,h1,h2⟩
end Go.Proofs.YtbibeionenjmfaaGreatDoor
namespace Go.Proofs.YtbibeionenjmfaaGreatDoor
open Go.RowKit
def RX (rb f:Nat) (s:List UInt8) (bad:Bool) (w:World) (e:Ending) (w':World):Prop:=
 (∃ r:Gy,e= .returned r.agg∧r.tree=(Bq f s bad).1∧Nt (fun q=> w.heap.size≤q) w' (f+1) r.tree r.cells∧Rd w' rb (Bq f s bad).2.1 (Bq f s bad).2.2)∧Ab (fun q=> q=rb) w w'
set_option maxRecDepth 100000 in
set_option maxHeartbeats 4000000 in
theorem U4 (rb f:Nat) (IH:Hid (∀ f',f=f'+1→∀ (deep:Int) (s:List UInt8) (w:World),deep+f'=6→(∀ w',Ab (fun q=> q=rb) w w'→GW w')→Rd w rb s false→s.length≤100000→
 Calls Tryz.prog 138 #[.pointer (some ⟨rb,0,none⟩), .int .i64 deep] w (RX rb f' s false w))) (deep:Int) (hd:deep+f=6) (s:List UInt8) (bad:Bool) (w:World) (hf:f≤5) (hg:∀ w',Ab (fun q=> q=rb) w w'→GW w') (hr:Rd w rb s bad) (hs:s.length≤100000):
 Calls Tryz.prog 138 #[.pointer (some ⟨rb,0,none⟩), .int .i64 deep] w (RX rb f s bad w):=by
 have HG:=Aa hg
 obtain⟨W1,hW1⟩:∃ W,W=w.alloc (.cells #[.int .i64 0, .int .i64 0, .string ⟨#[]⟩, .slice none 0 0] 191):=⟨_,rfl⟩
 have hb1:Below w.heap.size w W1:=by rw [hW1];exact(Below.refl _ _).alloc (Nat.le_refl _) _
 have hk1:Bk W1 w.heap.size [.int .i64 0, .int .i64 0, .string ⟨#[]⟩, .slice none 0 0]:=by rw [hW1];exact Bk.new rfl
 have hz1:W1.heap.size=w.heap.size+1:=by rw [hW1];simp
 obtain⟨W2,hW2⟩:∃ W,W=W1.alloc (.cells #[.int .i64 0, .int .i64 0, .string ⟨#[]⟩, .slice none 0 0] 191):=⟨_,rfl⟩
 have hb2:Below W1.heap.size W1 W2:=by rw [hW2];exact(Below.refl _ _).alloc (Nat.le_refl _) _
 have HSZ:Hid (W2.heap.size=W1.heap.size+1):=by show _=_;rw [hW2];simp
 have HE:=Aa (show Bk W2 (w.heap.size+1) [.int .i64 0, .int .i64 0, .string ⟨#[]⟩, .slice none 0 0] by rw [hW2,←hz1];exact Bk.new rfl)
 have HRS:=Aa (hk1.later hb2)
 have HK:=Aa (Ab.Ai (S:=fun q=> q=rb) (hb1.trans (hb2.mono (by omega))) (Nat.le_refl _))
 have HR:=Aa (Rd.later hr (hb1.trans (hb2.mono (by omega))))
 have HLT:Hid (rb < w.heap.size):=Bk.lt hr
 have HW1:=Aa hW1
 have HW2:=Aa hW2
 clear hg hr hb1 hk1 hb2 hW1 hW2
 go_enter Tryz.func138,Tryz.ntmps138
 go_upto_region 2 with (fail)
 rw [←HW1.out,←HW2.out]
 clear HW1 HW2
 have HZ2:Hid (W2.heap.size=w.heap.size+2):=by show _=_;rw [HSZ.out];omega
 have HWD:=Aa (Ace rb s bad W2 (HG.out _ HK.out).gm HR.out hs)
 have HWL:=Aa (I3 s)
 go_wp2_with fail
 refine HWD.out.mono ?_
 rintro e w3 ⟨⟨rfl,hr3⟩,k3⟩
 have HR3:=Aa hr3
 have hne:w.heap.size≠rb∧w.heap.size+1≠rb:=by have:=HLT.out;omega
 have HE3:=Aa (HE.out.kept k3 hne.2)
 have HRS3:=Aa (HRS.out.kept k3 hne.1)
 have HK3:=Aa (HK.out.trans k3)
 have HR3s:Hid (W2.heap.size≤w3.heap.size):=k3.size
 clear hr3 k3 HWD HE HRS HK HR
 obtain⟨A,hA⟩:∃ A,(Ax s).1=A:=⟨_,rfl⟩
 have HA:=Aa hA
 rw [hA]
 clear hA
 go_wp2_with (first
  | (go_at_call 171;refine(Xm _).mono ?_;rintro e w4 ⟨rfl,ho4,b4⟩;have HR4:=Aa (HR3.out.later b4);have HE4:=Aa (HE3.out.later b4);have HRS4:=Aa (HRS3.out.later b4);have HK4:=Aa (HK3.out.trans (Ab.Ai b4 (Nat.le_refl _)));have HO4:=Aa ho4;clear HR3 HE3 HRS3 HK3 b4 ho4)
  | (at_range;refine wpList_range_own _ rfl _ 261 rfl 3 9 Ej Tryz.underlying261 _ w3.heap.size 10 Jd rfl HO4.out ?_;intro w5 hrg5 hg5 hs5))
 have HRG5:=Aa hrg5
 have b5:=Z5 hg5
 have HR5:=Aa (HR4.out.later b5)
 have HE5:=Aa (HE4.out.later b5)
 have HRS5:=Aa (HRS4.out.later b5)
 have HK5:=Aa (HK4.out.trans (Ab.Ai b5 (Nat.le_refl _)))
 have HSM:Hid (w.heap.size+2≤w3.heap.size∧w3.heap.size < w4.heap.size):=⟨by have:=HR3s.out;have:=HZ2.out;omega,HO4.out.lt⟩
 clear hrg5 hg5 hs5 b5 HR4 HE4 HRS4 HK4 HO4
 go_frame
 go_loopw [7] (fun xv wr=> ∃ left Vu kv,wr.ranges Tryz.prog 3 (plainElem Tryz.prog 9) w3.heap.size w4.heap.size 10 Jd left Vu∧F7 A left kv∧Hid (Bk wr (w.heap.size+1) [.int .i64 kv, .int .i64 0, .string ⟨#[]⟩, .slice none 0 0])∧Hid (Bk wr w.heap.size [.int .i64 0, .int .i64 0, .string ⟨#[]⟩, .slice none 0 0])∧Hid (Rd wr rb (Ax s).2 bad)∧Hid (Ab (fun q=> q=rb) w wr)) (fun _ wr=> wr.rangeLeft w3.heap.size w4.heap.size)
 case atStart=> exact⟨_,_,0,HRG5.out,F7.start A,HE5,HRS5,HR5,HK5⟩
 case round=>
  clear HRG5 HE5 HRS5 HR5 HK5
  obtain⟨left,Vu,kv,hrg,hki,HE,HRS,HR,HK⟩:=hrel
  have HRG:=Aa hrg
  have HKI:=Aa hki
  clear hrg hki
  go_wp2_with (at_next;refine wpList_next_ranges _ rfl _ rfl 3 Ej (plainElem Tryz.prog 9) (Value.int .i64) Value.string (fun key kl h=> by obtain⟨x,rfl,_⟩:=Maps.keyOf_int_inv Tryz.underlying3 h;exact⟨x,rfl⟩) (fun v y h=> by obtain⟨t,rfl,_⟩:=plainElem_string_inv Tryz.underlying9 h;exact⟨t,rfl⟩) w3.heap.size w4.heap.size 10 Jd left Vu rfl HRG.out ?_ ?_)
  ·intro hc0 hl0
   obtain rfl:=HKI.out.done hl0
   have HRL:Hid (w4.heap.size < wr.heap.size):=HRG.out.lt
   clear hc0 hl0 HKI HRG
   obtain⟨kd,hkd⟩:∃ kd,Cl A=kd:=⟨_,rfl⟩
   rw [hkd] at HE
   have HKD:=Aa hkd
   have hkr:=Rv A
   rw [hkd] at hkr
   obtain⟨fb,hfb⟩:∃ fb,decide (5 < deep)=fb:=⟨_,rfl⟩
   obtain⟨kz,hkz⟩:∃ kz,(kd ==0)=kz:=⟨_,rfl⟩
   obtain⟨b1,hb1⟩:∃ b1,(bad || (kz || fb))=b1:=⟨_,rfl⟩
   have c0:=HE.out.get (j:=0) rfl
   have d1:=HR.out.bad
   have z1:=Bk.fz HR.out 1
   have HFB:=Aa hfb
   have HKZ:=Aa hkz
   have HB1:=Aa hb1
   clear hkd hb1
   go_upto_region 8 with (fail)
   go_cut [] from 24 to 39 (fun wc=> wc=wr.setCell ⟨rb,1,none⟩ (.bool b1))
   case first=>
    cases bad with
    | true=>
      obtain rfl:b1=true:=by rw [←HB1.out];rfl
      go_wp2
      go_meet
      rfl
    | false=>
      cases kz with
      | true=>
        obtain rfl:b1=true:=by rw [←HB1.out];rfl
        go_wp2
        go_meet
        rfl
      | false=>
        obtain rfl:b1=fb:=by rw [←HB1.out];rfl
        go_wp2
        go_meet
        rfl
   case rest=>
   obtain⟨rfl⟩:=hcut
   have HEX:=Aa (HE.out.Gx (p:=⟨rb,1,none⟩) (by have:=HLT.out;simp;omega) (.bool b1))
   have HRSX:=Aa (HRS.out.Gx (p:=⟨rb,1,none⟩) (by have:=HLT.out;simp;omega) (.bool b1))
   have HRX:=Aa (HR.out.E9 b1)
   have HKX:=Aa (HK.out.setCell (p:=⟨rb,1,none⟩) rfl (.bool b1))
   have HSX:Hid (w.heap.size+2≤(wr.setCell ⟨rb,1,none⟩ (.bool b1)).heap.size):=by have h1:=HRL.out;have h2:=HSM.out;show _≤_;simp [World.setCell];omega
   obtain⟨B,hB⟩:∃ B,(Ax s).2=B:=⟨_,rfl⟩
   have HBL:Hid (B.length≤100000):=by show _≤_;rw [←hB];exact Nat.le_trans HWL.out.2 hs
   have HBS:=Aa hB
   rw [hB] at HRX
   clear c0 d1 z1 HE HRS HR HK hB
   generalize wr.setCell ⟨rb,1,none⟩ (.bool b1)=WX at *
   have c0:=HEX.out.get (j:=0) rfl
   obtain⟨NQ,hNQ⟩:∃ q,Pm kd B=q:=⟨_,rfl⟩
   obtain⟨TQ,hTQ⟩:∃ q,Zi kd NQ.2.1=q:=⟨_,rfl⟩
   have HNQ:=Aa hNQ
   have HTQ:=Aa hTQ
   clear hNQ hTQ
   go_upto_block 2 with (fail)
   go_cut [9] from 42 to 62 (fun mv wd=> mv= .int .i64 (Mr kd)∧Hid (Rd wd rb TQ.2.1 (b1 || (NQ.2.2 || TQ.2.2)))∧Hid (Bk wd (w.heap.size+1) [.int .i64 kd, .int .i64 NQ.1, .string (tx TQ.1), .slice none 0 0])∧Hid (Bk wd w.heap.size [.int .i64 0, .int .i64 0, .string ⟨#[]⟩, .slice none 0 0])∧Hid (Ab (fun q=> q=rb) w wd)∧Hid (w.heap.size+2≤wd.heap.size))
   case first=>
    have hk11:kd=0∨kd=1∨kd=2∨kd=3∨kd=4∨kd=5∨kd=6∨kd=7∨kd=8∨kd=9∨kd=10:=by omega
    clear HKZ HB1 hkr hkz
    rcases hk11 with rfl | rfl | rfl | rfl | rfl | rfl | rfl | rfl | rfl | rfl | rfl
    ·skip
     have e1:Hid (NQ=(0,B,false)):=by show _=_;rw [←HNQ.out];rfl
     have e2:Hid (TQ=([],B,false)):=by show _=_;rw [←HTQ.out,e1.out];rfl
     clear HNQ HTQ
     go_wp2
     go_meet
     rw [e1.out,e2.out,Bool.or_self,Bool.or_false]
     exact⟨rfl,HRX,HEX,HRSX,HKX,HSX⟩
    ·skip
     have e1:Hid (NQ=(0,B,false)):=by show _=_;rw [←HNQ.out];rfl
     have e2:Hid (TQ=([],B,false)):=by show _=_;rw [←HTQ.out,e1.out];rfl
     clear HNQ HTQ
     go_wp2
     go_meet
     rw [e1.out,e2.out,Bool.or_self,Bool.or_false]
     exact⟨rfl,HRX,HEX,HRSX,HKX,HSX⟩
    ·skip
     have e1:Hid (NQ=(0,B,false)):=by show _=_;rw [←HNQ.out];rfl
     have e2:Hid (TQ=([],B,false)):=by show _=_;rw [←HTQ.out,e1.out];rfl
     clear HNQ HTQ
     go_wp2
     go_meet
     rw [e1.out,e2.out,Bool.or_self,Bool.or_false]
     exact⟨rfl,HRX,HEX,HRSX,HKX,HSX⟩
    ·skip
     have e1:Hid (NQ=(Ci (Ax B).1,(Ax B).2,!Dg (Ax B).1)):=by show _=_;rw [←HNQ.out];rfl
     have e2:Hid (TQ=([],(Ax B).2,false)):=by show _=_;rw [←HTQ.out,e1.out];rfl
     have HNU:=Aa (J2 rb B b1 WX (HG.out _ HKX.out) (fun w' k=> HG.out _ (HKX.out.trans k)) HRX.out HBL.out)
     clear HNQ HTQ
     go_wp2_with fail
     refine HNU.out.mono ?_
     rintro e w7 ⟨⟨rfl,hr7⟩,k7⟩
     have hne7:w.heap.size≠rb∧w.heap.size+1≠rb:=by have:=HLT.out;omega
     have HE7:=Aa (HEX.out.kept k7 hne7.2)
     have HRS7:=Aa (HRSX.out.kept k7 hne7.1)
     have HK7:=Aa (HKX.out.trans k7)
     have HS7:Hid (w.heap.size+2≤w7.heap.size):=Nat.le_trans HSX.out k7.size
     have HR7:=Aa hr7
     have y1:=HE7.out.get (j:=1) rfl
     have x1:=HE7.out.fz 1
     clear hr7 k7 HNU
     obtain⟨nn,hnn⟩:∃ nn,Ci (Ax B).1=nn:=⟨_,rfl⟩
     rw [hnn] at e1 ⊢
     have HE8:=Aa (HE7.out.set (k:=1) (.int .i64 nn) rfl)
     have HRS8:=Aa (HRS7.out.Gx (p:=⟨w.heap.size+1,1,none⟩) (by simp) (.int .i64 nn))
     have HR8:=Aa (Bk.Gx HR7.out (p:=⟨w.heap.size+1,1,none⟩) (by have:=HLT.out;simp;omega) (.int .i64 nn))
     have HK8:=Aa (HK7.out.Es (p:=⟨w.heap.size+1,1,none⟩) (by simp) (.int .i64 nn))
     have HS8:Hid (w.heap.size+2≤(w7.setCell ⟨w.heap.size+1,1,none⟩ (.int .i64 nn)).heap.size):=by show _≤_;simp [World.setCell];exact HS7.out
     clear hnn
     go_wp2
     go_meet
     rw [e1.out,e2.out,Bool.or_false]
     exact⟨rfl,HR8,HE8,HRS8,HK8,HS8⟩
    ·skip
     have e1:Hid (NQ=(0,B,false)):=by show _=_;rw [←HNQ.out];rfl
     have e2:Hid (TQ=Bz B):=by show _=_;rw [←HTQ.out,e1.out];rfl
     have HNU:=Aa (Sf rb B b1 WX HRX.out HBL.out)
     clear HNQ HTQ
     go_wp2_with fail
     refine HNU.out.mono ?_
     rintro e w7 ⟨⟨rfl,hr7⟩,k7⟩
     have hne7:w.heap.size≠rb∧w.heap.size+1≠rb:=by have:=HLT.out;omega
     have HE7:=Aa (HEX.out.kept k7 hne7.2)
     have HRS7:=Aa (HRSX.out.kept k7 hne7.1)
     have HK7:=Aa (HKX.out.trans k7)
     have HS7:Hid (w.heap.size+2≤w7.heap.size):=Nat.le_trans HSX.out k7.size
     have HR7:=Aa hr7
     have y1:=HE7.out.get (j:=2) rfl
     have x1:=HE7.out.fz 2
     clear hr7 k7 HNU
     obtain⟨nn,hnn⟩:∃ nn,Bz B=nn:=⟨_,rfl⟩
     rw [hnn] at e2 HR7 ⊢
     have HE8:=Aa (HE7.out.set (k:=2) (.string (tx nn.1)) rfl)
     have HRS8:=Aa (HRS7.out.Gx (p:=⟨w.heap.size+1,2,none⟩) (by simp) (.string (tx nn.1)))
     have HR8:=Aa (Bk.Gx HR7.out (p:=⟨w.heap.size+1,2,none⟩) (by have:=HLT.out;simp;omega) (.string (tx nn.1)))
     have HK8:=Aa (HK7.out.Es (p:=⟨w.heap.size+1,2,none⟩) (by simp) (.string (tx nn.1)))
     have HS8:Hid (w.heap.size+2≤(w7.setCell ⟨w.heap.size+1,2,none⟩ (.string (tx nn.1))).heap.size):=by show _≤_;simp [World.setCell];exact HS7.out
     clear hnn
     go_wp2
     go_meet
     rw [e1.out,e2.out,Bool.false_or]
     exact⟨rfl,HR8,HE8,HRS8,HK8,HS8⟩
    ·skip
     have e1:Hid (NQ=(0,B,false)):=by show _=_;rw [←HNQ.out];rfl
     have e2:Hid (TQ=([],B,false)):=by show _=_;rw [←HTQ.out,e1.out];rfl
     clear HNQ HTQ
     go_wp2
     go_meet
     rw [e1.out,e2.out,Bool.or_self,Bool.or_false]
     exact⟨rfl,HRX,HEX,HRSX,HKX,HSX⟩
    ·skip
     have e1:Hid (NQ=(Ci (Ax B).1,(Ax B).2,!Dg (Ax B).1)):=by show _=_;rw [←HNQ.out];rfl
     have e2:Hid (TQ=([],(Ax B).2,false)):=by show _=_;rw [←HTQ.out,e1.out];rfl
     have HNU:=Aa (J2 rb B b1 WX (HG.out _ HKX.out) (fun w' k=> HG.out _ (HKX.out.trans k)) HRX.out HBL.out)
     clear HNQ HTQ
     go_wp2_with fail
     refine HNU.out.mono ?_
     rintro e w7 ⟨⟨rfl,hr7⟩,k7⟩
     have hne7:w.heap.size≠rb∧w.heap.size+1≠rb:=by have:=HLT.out;omega
     have HE7:=Aa (HEX.out.kept k7 hne7.2)
     have HRS7:=Aa (HRSX.out.kept k7 hne7.1)
     have HK7:=Aa (HKX.out.trans k7)
     have HS7:Hid (w.heap.size+2≤w7.heap.size):=Nat.le_trans HSX.out k7.size
     have HR7:=Aa hr7
     have y1:=HE7.out.get (j:=1) rfl
     have x1:=HE7.out.fz 1
     clear hr7 k7 HNU
     obtain⟨nn,hnn⟩:∃ nn,Ci (Ax B).1=nn:=⟨_,rfl⟩
     rw [hnn] at e1 ⊢
     have HE8:=Aa (HE7.out.set (k:=1) (.int .i64 nn) rfl)
     have HRS8:=Aa (HRS7.out.Gx (p:=⟨w.heap.size+1,1,none⟩) (by simp) (.int .i64 nn))
     have HR8:=Aa (Bk.Gx HR7.out (p:=⟨w.heap.size+1,1,none⟩) (by have:=HLT.out;simp;omega) (.int .i64 nn))
     have HK8:=Aa (HK7.out.Es (p:=⟨w.heap.size+1,1,none⟩) (by simp) (.int .i64 nn))
     have HS8:Hid (w.heap.size+2≤(w7.setCell ⟨w.heap.size+1,1,none⟩ (.int .i64 nn)).heap.size):=by show _≤_;simp [World.setCell];exact HS7.out
     clear hnn
     go_wp2
     go_meet
     rw [e1.out,e2.out,Bool.or_false]
     exact⟨rfl,HR8,HE8,HRS8,HK8,HS8⟩
    ·skip
     have e1:Hid (NQ=(Ci (Ax B).1,(Ax B).2,!Dg (Ax B).1)):=by show _=_;rw [←HNQ.out];rfl
     have e2:Hid (TQ=([],(Ax B).2,false)):=by show _=_;rw [←HTQ.out,e1.out];rfl
     have HNU:=Aa (J2 rb B b1 WX (HG.out _ HKX.out) (fun w' k=> HG.out _ (HKX.out.trans k)) HRX.out HBL.out)
     clear HNQ HTQ
     go_wp2_with fail
     refine HNU.out.mono ?_
     rintro e w7 ⟨⟨rfl,hr7⟩,k7⟩
     have hne7:w.heap.size≠rb∧w.heap.size+1≠rb:=by have:=HLT.out;omega
     have HE7:=Aa (HEX.out.kept k7 hne7.2)
     have HRS7:=Aa (HRSX.out.kept k7 hne7.1)
     have HK7:=Aa (HKX.out.trans k7)
     have HS7:Hid (w.heap.size+2≤w7.heap.size):=Nat.le_trans HSX.out k7.size
     have HR7:=Aa hr7
     have y1:=HE7.out.get (j:=1) rfl
     have x1:=HE7.out.fz 1
     clear hr7 k7 HNU
     obtain⟨nn,hnn⟩:∃ nn,Ci (Ax B).1=nn:=⟨_,rfl⟩
     rw [hnn] at e1 ⊢
     have HE8:=Aa (HE7.out.set (k:=1) (.int .i64 nn) rfl)
     have HRS8:=Aa (HRS7.out.Gx (p:=⟨w.heap.size+1,1,none⟩) (by simp) (.int .i64 nn))
     have HR8:=Aa (Bk.Gx HR7.out (p:=⟨w.heap.size+1,1,none⟩) (by have:=HLT.out;simp;omega) (.int .i64 nn))
     have HK8:=Aa (HK7.out.Es (p:=⟨w.heap.size+1,1,none⟩) (by simp) (.int .i64 nn))
     have HS8:Hid (w.heap.size+2≤(w7.setCell ⟨w.heap.size+1,1,none⟩ (.int .i64 nn)).heap.size):=by show _≤_;simp [World.setCell];exact HS7.out
     clear hnn
     go_wp2
     go_meet
     rw [e1.out,e2.out,Bool.or_false]
     exact⟨rfl,HR8,HE8,HRS8,HK8,HS8⟩
    ·skip
     have e1:Hid (NQ=(0,B,false)):=by show _=_;rw [←HNQ.out];rfl
     have e2:Hid (TQ=([],B,false)):=by show _=_;rw [←HTQ.out,e1.out];rfl
     clear HNQ HTQ
     go_wp2
     go_meet
     rw [e1.out,e2.out,Bool.or_self,Bool.or_false]
     exact⟨rfl,HRX,HEX,HRSX,HKX,HSX⟩
    ·skip
     have e1:Hid (NQ=(0,B,false)):=by show _=_;rw [←HNQ.out];rfl
     have e2:Hid (TQ=([],B,false)):=by show _=_;rw [←HTQ.out,e1.out];rfl
     clear HNQ HTQ
     go_wp2
     go_meet
     rw [e1.out,e2.out,Bool.or_self,Bool.or_false]
     exact⟨rfl,HRX,HEX,HRSX,HKX,HSX⟩
    ·skip
     have e1:Hid (NQ=(0,B,false)):=by show _=_;rw [←HNQ.out];rfl
     have e2:Hid (TQ=([],B,false)):=by show _=_;rw [←HTQ.out,e1.out];rfl
     clear HNQ HTQ
     go_wp2
     go_meet
     rw [e1.out,e2.out,Bool.or_self,Bool.or_false]
     exact⟨rfl,HRX,HEX,HRSX,HKX,HSX⟩
   case rest=>
   obtain⟨rfl,HRD,HED,HRSD,HKD2,HSZE⟩:=hcut
   obtain⟨nn,hnn⟩:∃ nn,NQ.1=nn:=⟨_,rfl⟩
   obtain⟨tt,htt⟩:∃ tt,TQ.1=tt:=⟨_,rfl⟩
   obtain⟨s3,hs3⟩:∃ s3,TQ.2.1=s3:=⟨_,rfl⟩
   obtain⟨b2,hb2⟩:∃ b2,(b1 || (NQ.2.2 || TQ.2.2))=b2:=⟨_,rfl⟩
   rw [hnn,htt] at HED
   rw [hs3,hb2] at HRD
   have hnb: -9223372036854775808≤nn∧nn≤9223372036854775807:=by rw [←hnn,←HNQ.out];exact Am8 _ _
   have hl3:tt.length≤100000∧s3.length≤100000:=by
    have h1:=Abl kd B
    have h2:=Ab7 kd NQ.2.1
    rw [HNQ.out] at h1
    rw [HTQ.out,htt,hs3] at h2
    have h3:=HBL.out
    omega
   have HEQ:Hid (Bq f s bad=(.mk kd nn (tx tt) (Bo (fun s=> Bq (f - 1) s false) (Mr kd) s3 b2).1,(Bo (fun s=> Bq (f - 1) s false) (Mr kd) s3 b2).2)):=by
    refine Ak6 f s bad kd nn tt s3 b1 b2 ?_ ?_
    ·rw [Je]
     rw [HA.out,HBS.out,HKD.out,HNQ.out,HTQ.out,hnn,htt,hs3]
    ·intro q hq
     have h1:(Je s).2.2.2.2=(decide (kd=0) || (NQ.2.2 || TQ.2.2)):=by rw [Je,HA.out,HBS.out,HKD.out,HNQ.out,HTQ.out]
     rw [hq,h1,←hb2,←HB1.out,←HKZ.out,←HFB.out]
     have e1:(kd ==0)=decide (kd=0):=by by_cases h:kd=0 <;> simp [h]
     have e2:decide (5 < deep)=decide (f=0):=by rw [decide_eq_decide];omega
     rw [e1,e2]
     cases bad <;> cases decide (kd=0) <;> cases decide (f=0) <;> cases NQ.2.2 <;> cases TQ.2.2 <;> rfl
   have HF0:Hid (f=0→b2=true):=fun h0=> by
    rw [←hb2,←HB1.out,←HFB.out]
    have:decide (5 < deep)=true:=by rw [decide_eq_true_eq];omega
    rw [this]
    simp
   have hmk:Mr kd≤2:=by unfold Mr;split;omega;split <;> omega
   obtain⟨MK,hMK⟩:∃ MK,Mr kd=MK:=⟨_,rfl⟩
   rw [hMK] at HEQ hmk ⊢
   have HSZD:Hid (w.heap.size+2≤wc.heap.size):=HSZE.out
   clear hnn htt hs3 hb2 hMK hfb hkz HNQ HTQ HKD HB1 HKZ HFB HBS HA HWL HBL
   obtain⟨i0,hi0,hz0,hz1',hz2⟩:=info_parts Ahl
   go_wp2
   go_loopw [64] (fun iv wr=> ∃ (j:Nat) (l:List Gy) (sj:List UInt8) (bj:Bool) (ea:Option Addr) (ec:Nat),j≤MK∧iv= .int .i64 j∧l.length≤j∧sj.length≤100000∧Hid (Bo (fun s=> Bq (f - 1) s false) MK s3 b2=(l.map Gy.tree++(Bo (fun s=> Bq (f - 1) s false) (MK - j) sj bj).1,(Bo (fun s=> Bq (f - 1) s false) (MK - j) sj bj).2))∧Hid (f=0→bj=true)∧Hid (Rd wr rb sj bj)∧Hid (Bk wr (w.heap.size+1) [.int .i64 kd, .int .i64 nn, .string (tx tt), .slice ea l.length ec])∧Hid (Bk wr w.heap.size [.int .i64 0, .int .i64 0, .string ⟨#[]⟩, .slice none 0 0])∧Hid (Lg wr (w.heap.size+2) f (.slice ea l.length ec) l)∧Hid (Ab (fun q=> q=rb) w wr)∧Hid (w.heap.size+2≤wr.heap.size)) (fun iv _=> MK - (intOf iv).toNat)
   case atStart=> exact⟨0, [],s3,b2,none,0,by omega,rfl,by simp,hl3.2,(by show _=_;simp),HF0,HRD,HED,HRSD,Lg.nil,HKD2,HSZD⟩
   case round=>
    clear HRD HED HRSD HKD2 HSZD HF0
    obtain⟨j,l,sj,bj,ea,ec,hj,rfl,hlj,hsj,HKI,HF0,HRD,HED,HRSD,HKI9,HKK,HSZ9⟩:=hrel
    by_cases hlt:j < MK
    ·cases bj with
     | true=>
       have HKI2:Hid (Bo (fun s=> Bq (f - 1) s false) MK s3 b2=(l.map Gy.tree++(Bo (fun s=> Bq (f - 1) s false) (MK - (j+1)) sj true).1,(Bo (fun s=> Bq (f - 1) s false) (MK - (j+1)) sj true).2)):=by
        show _=_
        rw [HKI.out,Lw,Lw]
       have d1:=HRD.out.bad
       go_wp2
       go_roundw
       case rel=> exact⟨j+1,l,sj,true,ea,ec,by omega,by go_num,by omega,hsj,HKI2,(fun _=> rfl),HRD,HED,HRSD,HKI9,HKK,HSZ9⟩
       case measure=> (simp [intOf];try omega)
     | false=>
       obtain⟨f',rfl⟩:∃ f',f=f'+1:=⟨f - 1,by have h0:f≠0:=fun h0=> (by have h1:=HF0.out h0;cases h1);omega⟩
       have HCL:=Aa (IH.out f' rfl (deep+1) sj wr.drew (by omega) (fun w' k=> HG.out w' (HKK.out.drew.trans k)) (HRD.out) hsj)
       have HPL:Hid ((Bq f' sj false).2.1.length≤100000):=Nat.le_trans (Kz _ _ _) hsj
       have HKI2:Hid (∀ r:Gy,r.tree=(Bq f' sj false).1→Bo (fun s=> Bq (f'+1 - 1) s false) MK s3 b2=((l++ [r]).map Gy.tree++(Bo (fun s=> Bq (f'+1 - 1) s false) (MK - (j+1)) (Bq f' sj false).2.1 (Bq f' sj false).2.2).1,(Bo (fun s=> Bq (f'+1 - 1) s false) (MK - (j+1)) (Bq f' sj false).2.1 (Bq f' sj false).2.2).2)):=fun r hr=> by
        rw [HKI.out,show MK - j=(MK - (j+1))+1 by omega,Bo,if_neg (by decide)]
        simp only [Nat.add_sub_cancel,List.map_append,List.map_cons,List.map_nil,hr,List.append_assoc,List.cons_append,List.nil_append]
       unfold RX at HCL
       generalize Bq f' sj false=px at *
       have HFL:Hid (l.length+1≤1000000000):=by show _≤_;omega
       have c3:=HED.out.get (j:=3) rfl
       have d1:=HRD.out.bad
       have HNE:Hid (w.heap.size≠rb∧w.heap.size+1≠rb∧rb < w.heap.size+2):=by have:=HLT.out;show _∧_;omega
       have HON:Hid (∀ k,(Value.slice ea l.length ec).ownBlock=some k→¬ k=rb):=fun k e h=> by have h1:=(HKI9.out.own.lt k e).1;have h2:=HNE.out.2.2;omega
       have HOE:Hid (∀ k,(Value.slice ea l.length ec).ownBlock=some k→w.heap.size+2≤k):=fun k e=> (HKI9.out.own.lt k e).1
       have HL1:Hid (∀ r:Gy,(l++ [r]).length=l.length+1):=fun r=> by simp
       have hdd:IntKind.i64.wrap (deep+1)=deep+1:=IntWalk.i64_in _ (by omega)
       clear HKI HF0
       go_upto_region 26 with (fail)
       refine wp_region_noPanic ?_
       refine Al (S:=(fun w'=> Ab (fun q=> q=rb) wr w')) (E:= [7,9]) (by kernel_rfl) ?_ (fun hHeld=> ?_)
       ·(first | exact(Ab.refl _ _).drew | exact hHeld.trans k1 | exact hHeld.alloc _ | exact hHeld)
       try dsimp only [List.size_toArray,List.length_cons,List.length_nil,Nat.reduceAdd]
       refine hP 0 (v:=?_) rfl (by kernel_rfl) (by rfl) ?_ ?_
       rotate_left
       focus (intro w;go_simp;try with_reducible rfl)
       refine hP 2 (v:=?_) rfl (by kernel_rfl) (by rfl) ?_ ?_
       rotate_left
       focus (intro w;go_simp;try with_reducible rfl)
       refine hP 3 (v:=?_) rfl (by kernel_rfl) (by rfl) ?_ ?_
       rotate_left
       focus (intro w;go_simp;try with_reducible rfl)
       refine hT 1 [[1], [1]] (v:=?_) rfl (by kernel_rfl) (by rfl) (by assumption) ?_ ?_
       rotate_left
       focus (intro w hSw;(try dsimp only at hSw);(have t0:=Ab.cell hSw c3 HNE.out.2.1);go_simp;try with_reducible rfl)
       refine hP 4 (v:=?_) rfl (by kernel_rfl) (by rfl) ?_ ?_
       rotate_left
       focus (intro w;go_simp;try with_reducible rfl)
       try simp only [Act.put,List.setIfInBounds_toArray,List.set_cons_zero,List.set_cons_succ]
       refine hR [5] (by kernel_rfl) (by simp) (Ac.cons rfl (fun KH hKH=> ?_) .nil)
       go_simp
       (go_at_call 138;refine HCL.out.mono ?_;rintro e w1 ⟨⟨⟨rk,rn,rs,rao,rcap,ra⟩,rfl,hrt,hrx,hrd⟩,k1⟩;dsimp only [Gy.agg])
       try go_wp2_with fail
       refine hKH.out _ _ ?_ (fun hNew=> ?_)
       ·(first | exact(Ab.refl _ _).drew | exact hHeld.trans k1 | exact hHeld.alloc _ | exact hHeld)
       clear hKH KH hHeld
       have hHeld:=hNew
       clear hNew
       try simp only [Act.put,List.setIfInBounds_toArray,List.set_cons_zero,List.set_cons_succ]
       refine hR [6] (by kernel_rfl) (by simp) (Ac.cons rfl (fun KH hKH=> ?_) .nil)
       go_simp
       refine hKH.out _ _ ?_ (fun hNew=> ?_)
       ·(first | exact(Ab.refl _ _).drew | exact hHeld.trans k1 | exact hHeld.alloc _ | exact hHeld)
       clear hKH KH hHeld
       have hHeld:=hNew
       clear hNew
       try simp only [Act.put,List.setIfInBounds_toArray,List.set_cons_zero,List.set_cons_succ]
       refine hR [7] (by kernel_rfl) (by simp) (Ac.Bb rfl (by kernel_rfl) (fun KH hKH=> ?_) .nil)
       have hHE:=hHeld
       refine Cs (enc:=Gy.cells) Gy.Qh _ _ 189 i0 _ rfl rfl Tryz.underlying189 hi0 hz0 hz1' hz2 rfl (by decide) (by decide) (Ab.own hHE HKI9.out.own HON.out) (Below.refl _ _) (Nat.le_trans HSZ9.out hHE.size) HFL.out rfl (⟨rk,rn,rs,rao,rcap,ra⟩:Gy) ⟨w1.heap.size,0,none⟩ 1 rfl (Fc rfl rfl) (Anf _) ?_
       intro v' w2 ho hb1 hgr hat
       have hkk:=Ab.A9 (S:=fun q=> (Value.slice ea l.length ec).ownBlock=some q) hgr fun q e=> e
       have HB5:=Aa ((HED.out.kept hHE HNE.out.2.1).kept hkk fun e=> by have h1:=HOE.out _ e;omega)
       have HRS5:=Aa (((HRSD.out.kept hHE HNE.out.1).kept hkk fun e=> by have h1:=HOE.out _ e;omega).Gx (p:=⟨w.heap.size+1,3,none⟩) (by simp) v')
       have HRD5:=Aa (Bk.Gx (Bk.kept (Rd.later hrd ((Below.refl _ _).alloc (Nat.le_refl _) _)) hkk fun e=> by have h1:=HOE.out _ e;have h2:=HNE.out.2.2;omega) (p:=⟨w.heap.size+1,3,none⟩) (by have h2:=HNE.out.2.1;exact h2) v')
       have HKI5:=Aa (HKI9.out.put (eb:=w.heap.size+1) (k:=3) (u:=v') HNE.out.2.2 (Nat.lt_succ_self _) HSZ9.out hHE (hrx.later ((Below.refl _ _).alloc (Nat.le_refl _) _)) ho hgr hat)
       have HKK5:=Aa (((HKK.out.trans hHE).grown hgr fun q e=> by have h1:=HOE.out q e;omega).Es (p:=⟨w.heap.size+1,3,none⟩) (by simp) v')
       have HSZ5:Hid (w.heap.size+2≤(w2.setCell ⟨w.heap.size+1,3,none⟩ v').heap.size):=by have h1:=hkk.size;have h2:=hHE.size;have h3:=HSZ9.out;show _≤_;simp [World.setCell];omega
       have HKI6:=Aa (HKI2.out _ hrt)
       have s6:=HB5.out.get (j:=3) rfl
       have y6:=HB5.out.fz 3
       have HB6:=Aa (HB5.out.set (k:=3) v' rfl)
       obtain⟨na,nc,hv'⟩:=id ho.1
       subst hv'
       rw [HL1.out] at HB6 HKI5 HRS5 HRD5 HKK5 HSZ5
       clear ho hb1 hgr hat hkk hHE hrx hrd hrt k1 c3 HB5
       refine hKH.out _ _ ?_
       clear hKH KH
       try clear hHeld
       try simp only [Act.put,List.setIfInBounds_toArray,List.set_cons_zero,List.set_cons_succ]
       refine hP 8 (v:=?_) rfl (by kernel_rfl) (by rfl) ?_ ?_
       rotate_left
       focus (intro w;go_simp;try with_reducible rfl)
       try simp only [Act.put,List.setIfInBounds_toArray,List.set_cons_zero,List.set_cons_succ]
       refine hR [9] (by kernel_rfl) (by simp) (Ac.Bb rfl (by kernel_rfl) (fun KH hKH=> ?_) .nil)
       go_simp
       refine hKH.out _ _ ?_
       clear hKH KH
       try clear hHeld
       refine Ak (by kernel_rfl) ?_ _
       refine NoPanic.normal ?_
       go_wp2
       go_roundw
       case rel=> exact⟨j+1,_,px.2.1,px.2.2,_,_,by omega,by go_num,by rw [HL1.out];omega,HPL.out,HKI6,(fun h=> by cases h),HRD5,(by rw [HL1.out];exact HB6),HRS5,(by rw [HL1.out];exact HKI5),HKK5,HSZ5⟩
       case measure=> (simp [intOf];try omega)
    ·obtain rfl:j=MK:=by omega
     have HRE:Hid (Bq f s bad=(.mk kd nn (tx tt) (l.map Gy.tree),sj,bj)):=by
      show _=_
      rw [HEQ.out,HKI.out,Nat.sub_self]
      simp [Bo]
     have hts:(tx tt).size≤maxLen:=by rw [Am];unfold maxLen;omega
     have HTR:=Aa (HKI9.out.tree (k:=kd) (n:=nn) (t:=tx tt) (S:=fun q=> w.heap.size+2≤q) (by omega) hnb hts (by unfold maxLen;omega) (fun q h=> h))
     have c0:=HED.out.get (j:=0) rfl
     have c1:=HED.out.get (j:=1) rfl
     have c2:=HED.out.get (j:=2) rfl
     have c3:=HED.out.get (j:=3) rfl
     have r0:=HRSD.out.get (j:=0) rfl
     have r1:=HRSD.out.get (j:=1) rfl
     have r2:=HRSD.out.get (j:=2) rfl
     have r3:=HRSD.out.get (j:=3) rfl
     have y0:=HRSD.out.fz 0
     have y1:=HRSD.out.fz 1
     have y2:=HRSD.out.fz 2
     have y3:=HRSD.out.fz 3
     have hk9:=HRSD.out.Ou (.int .i64 kd) (.int .i64 nn) (.string (tx tt)) (.slice ea l.length ec)
     have f0:=hk9.get (j:=0) rfl
     have f1:=hk9.get (j:=1) rfl
     have f2:=hk9.get (j:=2) rfl
     have f3:=hk9.get (j:=3) rfl
     have HKF:=Aa (Qt (.int .i64 kd) (.int .i64 nn) (.string (tx tt)) (.slice ea l.length ec) HKK.out (b:=w.heap.size) (.inr (Nat.le_refl _)))
     have hkf2:=Qt (.int .i64 kd) (.int .i64 nn) (.string (tx tt)) (.slice ea l.length ec) (Ab.refl (fun q=> q=w.heap.size) wr) (b:=w.heap.size) (.inl rfl)
     have HTF:=Aa ((HTR.out.kept hkf2 fun q hq e=> by omega).mono (T:=fun q=> w.heap.size≤q) fun q hq=> by omega)
     have HRF:=Aa (Bk.kept HRD.out hkf2 fun e=> by have:=HLT.out;omega)
     clear hk9 hkf2 hts HTR HEQ HKI HF0
     go_wp2
     refine bodyPost_ret (v:= .agg #[.int .i64 kd, .int .i64 nn, .string (tx tt), .slice ea l.length ec]) (by simp [results,Tryz.results138,go_sem,f0,f1,f2,f3,y0,y1,y2,y3]) rfl ?_
     refine⟨⟨⟨kd,nn,tx tt,ea,ec,l.map Gy.tree⟩,by simp [Gy.agg],by rw [HRE.out];rfl,HTF.out,?_⟩,HKF.out⟩
     rw [HRE.out]
     exact HRF.out
  ·intro x c kl y yp w6 cnt6 hkey hlk hRc hat hrg6 hlt6 hg6 hs6 hen
   obtain⟨x',ex,rfl,hwx⟩:=Maps.keyOf_int_inv Tryz.underlying3 hkey
   cases ex
   obtain⟨c',ec,hyy,_⟩:=plainElem_string_inv Tryz.underlying9 hRc
   cases ec
   cases hyy
   obtain⟨hx,hcn⟩:=Ah2 hat
   have hct:c=tx (A8 x):=by rw [←hcn,P2]
   subst hct
   have k6:=Ads (S:=fun q=> q=w4.heap.size) hg6 rfl
   have hne:w.heap.size≠w4.heap.size∧w.heap.size+1≠w4.heap.size∧rb≠w4.heap.size:=by have:=HSM.out;have:=HLT.out;omega
   have HE6:=Aa (HE.out.kept k6 hne.2.1)
   have HRS6:=Aa (HRS.out.kept k6 hne.1)
   have HR6:=Aa (Bk.kept HR.out k6 hne.2.2)
   have HK6:=Aa (HK.out.grown hg6 fun q e=> by cases e;have:=HSM.out;omega)
   have HMS:Hid (w6.rangeLeft w3.heap.size w4.heap.size < wr.rangeLeft w3.heap.size w4.heap.size):=by show _ < _;rw [hrg6.left_eq,HRG.out.left_eq];exact hlt6
   have HRG6:=Aa hrg6
   have c0:=HE6.out.get (j:=0) rfl
   have z0:=HE6.out.fz 0
   clear hkey hlk hRc hat hwx hcn hrg6 hlt6 hg6 hs6 k6 hne HE HRS HR HK
   by_cases hn:A8 x=A
   ·have HKI6:=Aa (HKI.out.hit hx hn)
    have t1:((tx (A8 x)).toList ==(tx A).toList)=true:=by rw [hn];exact Ag1 _
    have HRG7:=Aa (Ael HRG6.out (e:=w.heap.size+1) (j:=0) (by have:=HSM.out;omega) (by have:=HSM.out;omega) (.int .i64 x))
    have HE7:=Aa (HE6.out.set (k:=0) (.int .i64 x) rfl)
    have HRS7:=Aa (HRS6.out.Gx (p:=⟨w.heap.size+1,0,none⟩) (by simp) (.int .i64 x))
    have HR7:=Aa (Bk.Gx HR6.out (p:=⟨w.heap.size+1,0,none⟩) (by have:=HLT.out;simp;omega) (.int .i64 x))
    have HK7:=Aa (HK6.out.Es (p:=⟨w.heap.size+1,0,none⟩) (by simp) (.int .i64 x))
    have HMS7:Hid ((w6.setCell ⟨w.heap.size+1,0,none⟩ (.int .i64 x)).rangeLeft w3.heap.size w4.heap.size < wr.rangeLeft w3.heap.size w4.heap.size):=by show _ < _;rw [HRG7.out.left_eq,←HRG6.out.left_eq];exact HMS.out
    clear hn HKI HRG HRG6 HE6 HRS6 HR6 HK6 HMS
    go_wp2
    go_roundw
    case rel=> exact⟨_,_,x,HRG7.out,HKI6.out,HE7,HRS7,HR7,HK7⟩
    case measure=> exact HMS7.out
   ·have HKI6:=Aa (HKI.out.Aqb hx hn)
    have t1:((tx (A8 x)).toList ==(tx A).toList)=false:=by rw [tl,tl,Ap,Ap,beq_eq_false_iff_ne];exact hn
    clear hn HKI HRG c0 z0
    go_wp2
    go_roundw
    case rel=> exact⟨_,_,kv,HRG6.out,HKI6.out,HE6,HRS6,HR6,HK6⟩
    case measure=> exact HMS.out
theorem Qz (rb f:Nat):∀ (deep:Int) (s:List UInt8) (bad:Bool) (w:World),deep+f=6→f≤5→(∀ w',Ab (fun q=> q=rb) w w'→GW w')→Rd w rb s bad→s.length≤100000→
 Calls Tryz.prog 138 #[.pointer (some ⟨rb,0,none⟩), .int .i64 deep] w (RX rb f s bad w):=by
 induction f with
 | zero=> exact fun deep s bad w hd hf hg hr hs=> U4 rb 0 (fun f' h=> by omega) deep hd s bad w hf hg hr hs
 | succ f ih=> exact fun deep s bad w hd hf hg hr hs=> U4 rb (f+1) (fun f' h=> by cases h;exact fun deep s w hd hg hr hs=> ih deep s false w hd (by omega) hg hr hs) deep hd s bad w hf hg hr hs
end Go.Proofs.YtbibeionenjmfaaGreatDoor
namespace Go.Proofs.YtbibeionenjmfaaGreatDoor
open Go.RowKit
def Jm:Gy:=⟨0,0,⟨#[]⟩,none,0, []⟩
def Le:Ao:=⟨false,0,Jm,⟨#[]⟩,Jm,Jm⟩
structure Kj (w0 w:World) (rb:Nat) (s:List UInt8) (bad:Bool) (cs:List Value) (T:List Gy):Prop where
 lt:rb < w0.heap.size
 rd:Rd w rb s bad
 x:Bk w (w0.heap.size+1) cs
 z:Bk w w0.heap.size (A6 Le)
 k:Ab (fun q=> q=rb) w0 w
 sz:w0.heap.size+2≤w.heap.size
 ts:∀ e∈T,Nt (fun q=> w0.heap.size+2≤q) w 6 e.tree e.cells
section
variable {w0 w w':World} {rb:Nat} {s s':List UInt8} {bad bad':Bool} {cs:List Value} {T:List Gy}
theorem Kj.call (h:Kj w0 w rb s bad cs T) (k:Ab (fun q=> q=rb) w w') (hr:Rd w' rb s' bad'):Kj w0 w' rb s' bad' cs T:=
 ⟨h.lt,hr,h.x.kept k (by have:=h.lt;omega),h.z.kept k (by have:=h.lt;omega),h.k.trans k,Nat.le_trans h.sz k.size,fun e he=> (h.ts e he).kept k fun q hq e2=> by have:=h.lt;omega⟩
theorem Kj.Nw (h:Kj w0 w rb s bad cs T) (k:Nat) {u:Value} (hu:cs[k]?=some u) (v:Value):Kj w0 (w.setCell ⟨w0.heap.size+1,k,none⟩ v) rb s bad (cs.set k v) T:=
 ⟨h.lt,Bk.Gx h.rd (p:=⟨w0.heap.size+1,k,none⟩) (by have:=h.lt;simp;omega) v,h.x.set (k:=k) v hu,h.z.Gx (p:=⟨w0.heap.size+1,k,none⟩) (by simp) v,h.k.Es (p:=⟨w0.heap.size+1,k,none⟩) (by simp) v,
  by have:=h.sz;simp [World.setCell];omega,fun e he=> (h.ts e he).kept ((Ab.refl (fun q=> q=w0.heap.size+1) w).setCell (p:=⟨w0.heap.size+1,k,none⟩) rfl v) fun q hq e2=> by omega⟩
theorem Kj.E9 (h:Kj w0 w rb s bad cs T) (b:Bool):Kj w0 (w.setCell ⟨rb,1,none⟩ (.bool b)) rb s b cs T:=
 h.call (Ab.setCell (S:=fun q=> q=rb) (Ab.refl _ _) (p:=⟨rb,1,none⟩) rfl (.bool b)) (h.rd.E9 b)
theorem Kj.add {e:Gy} (h:Kj w0 w rb s bad cs T) (he:Nt (fun q=> w0.heap.size+2≤q) w 6 e.tree e.cells):Kj w0 w rb s bad cs (e::T):=
 ⟨h.lt,h.rd,h.x,h.z,h.k,h.sz,fun x hx=> by rcases List.mem_cons.1 hx with rfl | hx;exact he;exact h.ts x hx⟩
end
def setRow:World→Nat→Nat→List Value→World
 | w,_,_, []=> w
 | w,b,o,v::l=> setRow (w.setCell ⟨b,o,none⟩ v) b (o+1) l
theorem Mz {S:Nat→Prop} {b:Nat}:∀ (l:List Value) {w0 w:World} (o:Nat),Ab S w0 w→(S b∨w0.heap.size≤b)→Ab S w0 (setRow w b o l)
 | [],_,_,_,h,_=> h
 | v::l,w0,w,o,h,hb=> Mz l (o+1) (hb.elim (fun hb=> h.setCell (p:=⟨b,o,none⟩) hb v) fun hb=> h.Es (p:=⟨b,o,none⟩) hb v) hb
theorem Xw {b:Nat}:∀ (l:List Value) {w:World} (pre old:List Value),Bk w b (pre++old)→old.length=l.length→Bk (setRow w b pre.length l) b (pre++l)
 | [],w,pre,old,h,hl=> by
   have:old= []:=List.length_eq_zero_iff.1 hl
   rw [this] at h;exact h
 | v::l,w,pre,u::old,h,hl=> by
   have h1:=h.set (k:=pre.length) (u:=u) v (by simp)
   rw [show(pre++u::old).set pre.length v=(pre++ [v])++old by simp] at h1
   have h2:=Xw l (pre++ [v]) old h1 (by simpa using hl)
   rw [List.length_append] at h2
   show Bk (setRow (w.setCell ⟨b,pre.length,none⟩ v) b (pre.length+1) l) b (pre++v::l)
   simpa using h2
 | v::l,w,pre, [],h,hl=> by simp at hl
theorem Aeo {w:World} {b:Nat} {cs:List Value} (l:List Value) (h:Bk w b cs) (hl:cs.length=l.length):Bk (setRow w b 0 l) b l:=Xw l [] cs h hl
theorem Od (w s:List UInt8):(Ay w s).length≤s.length:=by unfold Ay;split <;> simp
theorem Acz (s:List UInt8):(Cy s).length≤s.length:=by
 unfold Cy
 split
 ·simp
 ·split <;> simp
theorem Alr (S:Nat→Prop) (w:World) (d:Nat):Nt S w (d+1) Jm.tree Jm.cells:=⟨none,0,rfl,by decide,by decide,by decide,by decide,fun i x hi=> (by have h:([]:List Ah)[i]?=some x:=hi;simp at h),fun b o e=> by cases e⟩
def RR (rb:Nat) (s:List UInt8) (w:World) (e:Ending) (w':World):Prop:=
 (∃ r:Ao,e= .returned r.agg∧r.v=(Dk s).1∧(∀ t∈ [r.val,r.key,r.cond],Nt (fun q=> w.heap.size≤q) w' 6 t.tree t.cells)∧r.C1.size≤maxLen∧∃ s',Rd w' rb s' (Dk s).2)∧Ab (fun q=> q=rb) w w'
set_option maxRecDepth 100000 in
set_option maxHeartbeats 8000000 in
theorem Aig (rb:Nat) (s:List UInt8) (w:World) (hg:∀ w',Ab (fun q=> q=rb) w w'→GW w') (hr:Rd w rb s false) (hs:s.length≤10000):
 Calls Tryz.prog 103 #[.pointer (some ⟨rb,0,none⟩)] w (RR rb s w):=by
 have HG:=Aa hg
 obtain⟨W1,hW1⟩:∃ W,W=w.alloc (.cells (A6 Le).toArray 193):=⟨_,rfl⟩
 have hb1:Below w.heap.size w W1:=by rw [hW1];exact(Below.refl _ _).alloc (Nat.le_refl _) _
 have hk1:Bk W1 w.heap.size (A6 Le):=by rw [hW1];exact Bk.new rfl
 have hz1:W1.heap.size=w.heap.size+1:=by rw [hW1];simp
 obtain⟨W2,hW2⟩:∃ W,W=W1.alloc (.cells (A6 Le).toArray 193):=⟨_,rfl⟩
 have hb2:Below W1.heap.size W1 W2:=by rw [hW2];exact(Below.refl _ _).alloc (Nat.le_refl _) _
 have hk2:Bk W2 (w.heap.size+1) (A6 Le):=by rw [hW2,←hz1];exact Bk.new rfl
 have hb12:Below w.heap.size w W2:=hb1.trans (hb2.mono (by omega))
 have HX:Hid (Kj w W2 rb s false (A6 Le) []):=⟨Bk.lt hr,Rd.later hr hb12,hk2,hk1.later hb2,Ab.Ai hb12 (Nat.le_refl _),by rw [hW2];simp;omega,fun e he=> by cases he⟩
 have HW:Hid (W2=(w.alloc (.cells #[.bool false, .int .i64 0, .int .i64 0, .int .i64 0, .string ⟨#[]⟩, .slice none 0 0, .string ⟨#[]⟩, .int .i64 0, .int .i64 0, .string ⟨#[]⟩, .slice none 0 0, .int .i64 0, .int .i64 0, .string ⟨#[]⟩, .slice none 0 0] 193)).alloc (.cells #[.bool false, .int .i64 0, .int .i64 0, .int .i64 0, .string ⟨#[]⟩, .slice none 0 0, .string ⟨#[]⟩, .int .i64 0, .int .i64 0, .string ⟨#[]⟩, .slice none 0 0, .int .i64 0, .int .i64 0, .string ⟨#[]⟩, .slice none 0 0] 193)):=by show _=_;rw [hW2,hW1];rfl
 clear hg hr hb1 hk1 hb2 hk2 hb12 hW1 hW2 hz1
 have HN1:=Aa (Ms rb s false ⟨#[101,97,99,104]⟩ W2 HX.out.rd (by decide))
 have HD:Hid (Dk s=(⟨B5 Dn s,Hg (Ay Dn s),(Eu (Ay Dn s)).1,tx (Eu (Ay Dn s)).2.1,(Su (Eu (Ay Dn s)).2.2.1 (Eu (Ay Dn s)).2.2.2).1,(Aca (Su (Eu (Ay Dn s)).2.2.1 (Eu (Ay Dn s)).2.2.2).2.1 (Su (Eu (Ay Dn s)).2.2.1 (Eu (Ay Dn s)).2.2.2).2.2).1⟩,(Aca (Su (Eu (Ay Dn s)).2.2.1 (Eu (Ay Dn s)).2.2.2).2.1 (Su (Eu (Ay Dn s)).2.2.1 (Eu (Ay Dn s)).2.2.2).2.2).2.2 || !(Aca (Su (Eu (Ay Dn s)).2.2.1 (Eu (Ay Dn s)).2.2.2).2.1 (Su (Eu (Ay Dn s)).2.2.1 (Eu (Ay Dn s)).2.2.2).2.2).2.1.isEmpty)):=rfl
 rw [show(⟨#[101,97,99,104]⟩:ByteArray).data.toList=Dn from rfl] at HN1
 have hl1:=Nat.le_trans (Od Dn s) hs
 generalize B5 Dn s=E at *
 generalize Ay Dn s=s1 at *
 go_enter Tryz.func103,Tryz.ntmps103
 go_upto_region 2 with (fail)
 rw [←HW.out]
 clear HW
 go_wp2_with fail
 refine HN1.out.mono ?_
 rintro e w2 ⟨⟨rfl,hr2⟩,k2⟩
 replace HX:=Aa (HX.out.call k2 hr2)
 have c0:=HX.out.x.get (j:=0) rfl
 have z0:=HX.out.x.fz 0
 clear hr2 k2 HN1
 go_upto_block 0 with (fail)
 replace HX:=Aa (HX.out.Nw 0 rfl (.bool E))
 clear c0 z0
 generalize w2.setCell ⟨w.heap.size+1,0,none⟩ (.bool E)=W3 at *
 have HN2:=Aa (Ms rb s1 false ⟨#[115,97,109,101]⟩ W3 HX.out.rd (by decide))
 rw [show(⟨#[115,97,109,101]⟩:ByteArray).data.toList=P3 from rfl] at HN2
 go_cut [] from 7 to 14 (fun wc=> Hid (Kj w wc rb (Cy s1) false (A6 ⟨E,Hg s1,Jm,⟨#[]⟩,Jm,Jm⟩) []))
 case first=>
  obtain⟨n1,hn1⟩:∃ n,B5 P3 s1=n:=⟨_,rfl⟩
  rw [hn1] at HN2
  cases n1 with
  | true=>
    have HE:Hid (Hg s1=1∧Cy s1=Ay P3 s1):=by refine⟨by unfold Hg;rw [if_pos hn1],by unfold Cy Ay;rw [if_pos hn1,if_pos hn1];rfl⟩
    clear hn1
    go_wp2_with fail
    refine HN2.out.mono ?_
    rintro e w4 ⟨⟨rfl,hr4⟩,k4⟩
    have HX4:=Aa (HX.out.call k4 hr4)
    have c1:=HX4.out.x.get (j:=1) rfl
    have z1:=HX4.out.x.fz 1
    have HX5:=Aa (HX4.out.Nw 1 rfl (.int .i64 1))
    clear hr4 k4 HN2
    go_wp2
    go_meet
    rw [HE.out.1,HE.out.2]
    exact HX5
  | false=>
    have HA:Hid (Ay P3 s1=s1):=by show _=_;unfold Ay;simp [hn1]
    obtain⟨n2,hn2⟩:∃ n,B5 M9 s1=n:=⟨_,rfl⟩
    have HE1:Hid (n2=true→Hg s1=2∧Cy s1=Ay M9 s1):=fun h=> by rw [h] at hn2;refine⟨by unfold Hg;rw [if_neg (by rw [hn1];decide),if_pos hn2],by unfold Cy Ay;rw [if_neg (by rw [hn1];decide),if_pos hn2,if_pos hn2];rfl⟩
    have HE0:Hid (n2=false→Hg s1=0∧Cy s1=s1∧Ay M9 s1=s1):=fun h=> by unfold Hg Cy Ay;simp [hn1,hn2,h]
    clear hn1
    go_wp2_with fail
    refine HN2.out.mono ?_
    rintro e w4 ⟨⟨rfl,hr4⟩,k4⟩
    rw [HA.out] at hr4
    have HX4:=Aa (HX.out.call k4 hr4)
    have HN3:=Aa (Ms rb s1 false ⟨#[111,116,104,101,114]⟩ w4 HX4.out.rd (by decide))
    rw [show(⟨#[111,116,104,101,114]⟩:ByteArray).data.toList=M9 from rfl,hn2] at HN3
    clear hr4 k4 HN2 hn2
    cases n2 with
    | true=>
      have HE:=Aa (HE1.out rfl)
      clear HE1 HE0
      go_wp2_with fail
      refine HN3.out.mono ?_
      rintro e w5 ⟨⟨rfl,hr5⟩,k5⟩
      have HX5:=Aa (HX4.out.call k5 hr5)
      have c1:=HX5.out.x.get (j:=1) rfl
      have z1:=HX5.out.x.fz 1
      have HX6:=Aa (HX5.out.Nw 1 rfl (.int .i64 2))
      clear hr5 k5 HN3
      go_wp2
      go_meet
      rw [HE.out.1,HE.out.2]
      exact HX6
    | false=>
      have HE:=Aa (HE0.out rfl)
      clear HE1 HE0
      go_wp2_with fail
      refine HN3.out.mono ?_
      rintro e w5 ⟨⟨rfl,hr5⟩,k5⟩
      rw [HE.out.2.2] at hr5
      have HX5:=Aa (HX4.out.call k5 hr5)
      clear hr5 k5 HN3
      go_wp2
      go_meet
      rw [HE.out.1,HE.out.2.1]
      exact HX5
 case rest=>
 clear HX HN2
 have HX:=hcut
 clear hcut
 have hl2:=Nat.le_trans (Acz s1) hl1
 obtain⟨wn,hwn⟩:∃ wn,Hg s1=wn:=⟨_,rfl⟩
 have HWN:=Aa hwn
 rw [hwn] at HX HD
 clear hwn
 have HCE:Hid (wn≠0→Eu s1=((Bq 5 (Cy s1) false).1,(Bz (Bq 5 (Cy s1) false).2.1).1,(Bz (Bq 5 (Cy s1) false).2.1).2.1,(Bq 5 (Cy s1) false).2.2 || (Bz (Bq 5 (Cy s1) false).2.1).2.2)):=fun h=> by
  unfold Eu
  rw [if_neg (by rw [HWN.out];exact h)]
 have HC0:Hid (wn=0→Eu s1=(Qg, [],Cy s1,false)):=fun h=> by
  unfold Eu
  rw [if_pos (by rw [HWN.out];exact h)]
 generalize Eu s1=C at *
 generalize Cy s1=s2 at *
 have c1:=HX.out.x.get (j:=1) rfl
 obtain⟨tb,htb⟩:∃ tb,(wn !=0)=tb:=⟨_,rfl⟩
 go_upto_if 17 with (fail)
 have HTB:=Aa htb
 clear htb
 go_cut [] from 18 to 23 (fun wd=> Hid ((∃ cond:Gy,cond.tree=C.1∧Kj w wd rb C.2.2.1 C.2.2.2 (A6 ⟨E,wn,cond,tx C.2.1,Jm,Jm⟩) [cond])∧C.2.1.length≤10000∧C.2.2.1.length≤10000))
 case first=>
  by_cases hw0:wn=0
  ·obtain rfl:tb=false:=by rw [←HTB.out,hw0];rfl
   have HC:=Aa (HC0.out hw0)
   clear HTB hw0 HCE HC0
   go_wp2
   go_meet
   rw [HC.out]
   refine⟨⟨Jm,rfl,HX.out.add (Alr _ _ 5)⟩,by simp,hl2⟩
  ·obtain rfl:tb=true:=by rw [←HTB.out];simpa using hw0
   have HC:=Aa (HCE.out hw0)
   clear HTB HCE HC0
   have hlx:=Kz 5 s2 false
   have HRX:=Aa (Qz rb 5 1 s2 false wc (by decide) (by decide) (fun w' k=> HG.out w' (HX.out.k.trans k)) HX.out.rd (by omega))
   unfold RX at HRX
   generalize Bq 5 s2 false=px at *
   have hlq:=Sc px.2.1
   go_wp2_with fail
   refine HRX.out.mono ?_
   rintro e w5 ⟨⟨⟨rk,rn,rs,rao,rcap,ra⟩,rfl,hrt,hrx,hrd⟩,k5⟩
   dsimp only [Gy.agg]
   have HX5:=Aa ((HX.out.call k5 hrd).add (hrx.mono fun q hq=> Nat.le_trans HX.out.sz hq))
   have HRT:=Aa hrt
   have d2:=HX5.out.x.get (j:=2) rfl
   have d3:=HX5.out.x.get (j:=3) rfl
   have d4:=HX5.out.x.get (j:=4) rfl
   have d5:=HX5.out.x.get (j:=5) rfl
   have y2:=HX5.out.x.fz 2
   have y3:=HX5.out.x.fz 3
   have y4:=HX5.out.x.fz 4
   have y5:=HX5.out.x.fz 5
   have HX6:=Aa ((((HX5.out.Nw 2 rfl (.int .i64 rk)).Nw 3 rfl (.int .i64 rn)).Nw 4 rfl (.string rs)).Nw 5 rfl (.slice rao ra.length rcap))
   have HQ:=Aa (Sf rb px.2.1 px.2.2 _ HX6.out.rd (by omega))
   clear k5 hrd hrx hrt HRX
   go_wp2_with fail
   refine HQ.out.mono ?_
   rintro e w6 ⟨⟨rfl,hr6⟩,k6⟩
   have HX7:=Aa (HX6.out.call k6 hr6)
   have d6:=HX7.out.x.get (j:=6) rfl
   have y6:=HX7.out.x.fz 6
   have HX8:=Aa (HX7.out.Nw 6 rfl (.string (tx (Bz px.2.1).1)))
   clear hr6 k6 HQ d2 d3 d4 d5 y2 y3 y4 y5 HX6 HX5
   go_wp2
   go_meet
   rw [HC.out]
   exact⟨⟨⟨rk,rn,rs,rao,rcap,ra⟩,HRT.out,HX8.out⟩,by show(Bz px.2.1).1.length≤10000;have:=hlq.1;omega,by show(Bz px.2.1).2.1.length≤10000;have:=hlq.2;omega⟩
 case rest=>
 obtain⟨⟨cond,hct,hx⟩,hcl1,hcl2⟩:=hcut.out
 clear HX hcut HCE HC0 HTB c1
 have HX:=Aa hx
 have HCT:=Aa hct
 clear hx hct
 obtain⟨ct,C1,s3,b3⟩:=C
 dsimp only at HX HCT HD hcl1 hcl2
 have HN_k:=Aa (Ms rb s3 b3 ⟨#[107,101,121]⟩ wc HX.out.rd (by decide))
 rw [show(⟨#[107,101,121]⟩:ByteArray).data.toList=Oy from rfl] at HN_k
 go_upto_region 10 with (fail)
 go_cut [] from 24 to 35 (fun wd=> Hid (Kj w wd rb (Ay Oy s3) (!B5 Oy s3 || b3) (A6 ⟨E,wn,cond,tx C1,Jm,Jm⟩) [cond]))
 case first=>
  obtain⟨nk,hnk⟩:∃ nk,B5 Oy s3=nk:=⟨_,rfl⟩
  rw [hnk] at HN_k
  have HNK:=Aa hnk
  clear hnk
  go_wp2_with fail
  refine HN_k.out.mono ?_
  rintro e w4 ⟨⟨rfl,hr4⟩,k4⟩
  have HX4:=Aa (HX.out.call k4 hr4)
  have d1:=HX4.out.rd.bad
  have z1:=Bk.fz HX4.out.rd 1
  have HX5:=Aa (HX4.out.E9 (!nk || b3))
  clear hr4 k4 HN_k
  cases nk with
  | true=>
    go_wp2
    go_meet
    rw [HNK.out]
    exact HX5
  | false=>
    go_wp2
    go_meet
    rw [HNK.out]
    exact HX5
 case rest=>
 clear HX HN_k
 have HX:=hcut
 clear hcut
 have hl_k:=Kz 5 (Ay Oy s3) (!B5 Oy s3 || b3)
 have hl2_k:=Od Oy s3
 have HRX_k:=Aa (Qz rb 5 1 (Ay Oy s3) (!B5 Oy s3 || b3) wc (by decide) (by decide) (fun w' k=> HG.out w' (HX.out.k.trans k)) HX.out.rd (by omega))
 unfold RX at HRX_k
 have HDK:Hid (Su s3 b3=Bq 5 (Ay Oy s3) (!B5 Oy s3 || b3)):=rfl
 generalize Su s3 b3=K at *
 rw [←HDK.out] at HRX_k hl_k
 go_wp2_with fail
 refine HRX_k.out.mono ?_
 rintro e w5 ⟨⟨⟨rk,rn,rs,rao,rcap,ra⟩,rfl,hrt,hrx,hrd⟩,k5⟩
 dsimp only [Gy.agg]
 have HX5:=Aa ((HX.out.call k5 hrd).add (hrx.mono fun q hq=> Nat.le_trans HX.out.sz hq))
 have HKT:=Aa hrt
 have d0:=HX5.out.x.get (j:=7) rfl
 have y0:=HX5.out.x.fz 7
 have d1:=HX5.out.x.get (j:=8) rfl
 have y1:=HX5.out.x.fz 8
 have d2:=HX5.out.x.get (j:=9) rfl
 have y2:=HX5.out.x.fz 9
 have d3:=HX5.out.x.get (j:=10) rfl
 have y3:=HX5.out.x.fz 10
 have HX6:=Aa ((((HX5.out.Nw 7 rfl (.int .i64 rk)).Nw 8 rfl (.int .i64 rn)).Nw 9 rfl (.string rs)).Nw 10 rfl (.slice rao ra.length rcap))
 clear k5 hrd hrx hrt HRX_k HX HDK
 go_upto_region 12 with (fail)
 clear d0 d1 d2 d3 y0 y1 y2 y3 HX5
 obtain⟨key,hkey⟩:∃ key:Gy,key=⟨rk,rn,rs,rao,rcap,ra⟩:=⟨_,rfl⟩
 have HX:Hid (Kj w ((((w5.setCell ⟨w.heap.size+1,7,none⟩ (.int .i64 rk)).setCell ⟨w.heap.size+1,8,none⟩ (.int .i64 rn)).setCell ⟨w.heap.size+1,9,none⟩ (.string rs)).setCell ⟨w.heap.size+1,10,none⟩ (.slice rao ra.length rcap)) rb K.2.1 K.2.2 (A6 ⟨E,wn,cond,tx C1,key,Jm⟩) [key,cond]):=by rw [hkey];exact HX6.out
 have HKEY:Hid (key.tree=K.1):=by show _=_;rw [hkey];exact HKT.out
 generalize ((((w5.setCell ⟨w.heap.size+1,7,none⟩ (.int .i64 rk)).setCell ⟨w.heap.size+1,8,none⟩ (.int .i64 rn)).setCell ⟨w.heap.size+1,9,none⟩ (.string rs)).setCell ⟨w.heap.size+1,10,none⟩ (.slice rao ra.length rcap))=wc at *
 clear HX6 HKT hkey
 obtain⟨kt,s4,b4⟩:=K
 dsimp only at HX HKEY HD hl_k
 have HN_v:=Aa (Ms rb s4 b4 ⟨#[118,97,108]⟩ wc HX.out.rd (by decide))
 rw [show(⟨#[118,97,108]⟩:ByteArray).data.toList=Oz from rfl] at HN_v
 go_upto_region 12 with (fail)
 go_cut [] from 39 to 50 (fun wd=> Hid (Kj w wd rb (Ay Oz s4) (!B5 Oz s4 || b4) (A6 ⟨E,wn,cond,tx C1,key,Jm⟩) [key,cond]))
 case first=>
  obtain⟨nk,hnk⟩:∃ nk,B5 Oz s4=nk:=⟨_,rfl⟩
  rw [hnk] at HN_v
  have HNK:=Aa hnk
  clear hnk
  go_wp2_with fail
  refine HN_v.out.mono ?_
  rintro e w4 ⟨⟨rfl,hr4⟩,k4⟩
  have HX4:=Aa (HX.out.call k4 hr4)
  have d1:=HX4.out.rd.bad
  have z1:=Bk.fz HX4.out.rd 1
  have HX5:=Aa (HX4.out.E9 (!nk || b4))
  clear hr4 k4 HN_v
  cases nk with
  | true=>
    go_wp2
    go_meet
    rw [HNK.out]
    exact HX5
  | false=>
    go_wp2
    go_meet
    rw [HNK.out]
    exact HX5
 case rest=>
 clear HX HN_v
 have HX:=hcut
 clear hcut
 have hl_v:=Kz 5 (Ay Oz s4) (!B5 Oz s4 || b4)
 have hl2_v:=Od Oz s4
 have HRX_v:=Aa (Qz rb 5 1 (Ay Oz s4) (!B5 Oz s4 || b4) wc (by decide) (by decide) (fun w' k=> HG.out w' (HX.out.k.trans k)) HX.out.rd (by omega))
 unfold RX at HRX_v
 have HDV:Hid (Aca s4 b4=Bq 5 (Ay Oz s4) (!B5 Oz s4 || b4)):=rfl
 generalize Aca s4 b4=V at *
 rw [←HDV.out] at HRX_v hl_v
 go_wp2_with fail
 refine HRX_v.out.mono ?_
 rintro e w5 ⟨⟨⟨rk,rn,rs,rao,rcap,ra⟩,rfl,hrt,hrx,hrd⟩,k5⟩
 dsimp only [Gy.agg]
 have HX5:=Aa ((HX.out.call k5 hrd).add (hrx.mono fun q hq=> Nat.le_trans HX.out.sz hq))
 have HVT:=Aa hrt
 have d0:=HX5.out.x.get (j:=11) rfl
 have y0:=HX5.out.x.fz 11
 have d1:=HX5.out.x.get (j:=12) rfl
 have y1:=HX5.out.x.fz 12
 have d2:=HX5.out.x.get (j:=13) rfl
 have y2:=HX5.out.x.fz 13
 have d3:=HX5.out.x.get (j:=14) rfl
 have y3:=HX5.out.x.fz 14
 have HX6:=Aa ((((HX5.out.Nw 11 rfl (.int .i64 rk)).Nw 12 rfl (.int .i64 rn)).Nw 13 rfl (.string rs)).Nw 14 rfl (.slice rao ra.length rcap))
 clear k5 hrd hrx hrt HRX_v HX HDV
 go_upto_region 14 with (fail)
 clear d0 d1 d2 d3 y0 y1 y2 y3 HX5
 obtain⟨val,hval⟩:∃ val:Gy,val=⟨rk,rn,rs,rao,rcap,ra⟩:=⟨_,rfl⟩
 have HX:Hid (Kj w ((((w5.setCell ⟨w.heap.size+1,11,none⟩ (.int .i64 rk)).setCell ⟨w.heap.size+1,12,none⟩ (.int .i64 rn)).setCell ⟨w.heap.size+1,13,none⟩ (.string rs)).setCell ⟨w.heap.size+1,14,none⟩ (.slice rao ra.length rcap)) rb V.2.1 V.2.2 (A6 ⟨E,wn,cond,tx C1,key,val⟩) [val,key,cond]):=by rw [hval];exact HX6.out
 have HVAL:Hid (val.tree=V.1):=by show _=_;rw [hval];exact HVT.out
 generalize ((((w5.setCell ⟨w.heap.size+1,11,none⟩ (.int .i64 rk)).setCell ⟨w.heap.size+1,12,none⟩ (.int .i64 rn)).setCell ⟨w.heap.size+1,13,none⟩ (.string rs)).setCell ⟨w.heap.size+1,14,none⟩ (.slice rao ra.length rcap))=wc at *
 clear HX6 HVT hval
 obtain⟨vt,s5,b5⟩:=V
 dsimp only at HX HVAL HD hl_v
 have d0:=HX.out.rd.s
 have d1:=HX.out.rd.bad
 have z1:=Bk.fz HX.out.rd 1
 obtain⟨em,hem⟩:∃ em,s5.isEmpty=em:=⟨_,rfl⟩
 have m1:(tx s5).toList.isEmpty=em:=by rw [tl,Ap];exact hem
 have m2:((tx s5).toList == [])=em:=by rw [tl,Ap,←hem];cases s5 <;> rfl
 rw [hem] at HD
 clear hem
 go_cut [] from 54 to 67 (fun wd=> Hid (Kj w wd rb s5 (b5 || !em) (A6 ⟨E,wn,cond,tx C1,key,val⟩) [val,key,cond]))
 case first=>
  have HX4:=Aa (HX.out.E9 (b5 || !em))
  cases b5 with
  | true=>
    go_wp2
    go_meet
    exact HX4
  | false=>
    cases em with
    | true=>
      have m3:(tx s5).toList= []:=List.isEmpty_iff.1 m1
      go_wp2
      go_meet
      exact HX4
    | false=>
      go_wp2
      go_meet
      exact HX4
 case rest=>
 clear HX d0 d1 z1 m1 m2
 have HX:=hcut
 clear hcut
 have c0:=HX.out.x.get (j:=0) rfl
 have r0:=HX.out.z.get (j:=0) rfl
 have y0:=HX.out.z.fz 0
 have c1:=HX.out.x.get (j:=1) rfl
 have r1:=HX.out.z.get (j:=1) rfl
 have y1:=HX.out.z.fz 1
 have c2:=HX.out.x.get (j:=2) rfl
 have r2:=HX.out.z.get (j:=2) rfl
 have y2:=HX.out.z.fz 2
 have c3:=HX.out.x.get (j:=3) rfl
 have r3:=HX.out.z.get (j:=3) rfl
 have y3:=HX.out.z.fz 3
 have c4:=HX.out.x.get (j:=4) rfl
 have r4:=HX.out.z.get (j:=4) rfl
 have y4:=HX.out.z.fz 4
 have c5:=HX.out.x.get (j:=5) rfl
 have r5:=HX.out.z.get (j:=5) rfl
 have y5:=HX.out.z.fz 5
 have c6:=HX.out.x.get (j:=6) rfl
 have r6:=HX.out.z.get (j:=6) rfl
 have y6:=HX.out.z.fz 6
 have c7:=HX.out.x.get (j:=7) rfl
 have r7:=HX.out.z.get (j:=7) rfl
 have y7:=HX.out.z.fz 7
 have c8:=HX.out.x.get (j:=8) rfl
 have r8:=HX.out.z.get (j:=8) rfl
 have y8:=HX.out.z.fz 8
 have c9:=HX.out.x.get (j:=9) rfl
 have r9:=HX.out.z.get (j:=9) rfl
 have y9:=HX.out.z.fz 9
 have c10:=HX.out.x.get (j:=10) rfl
 have r10:=HX.out.z.get (j:=10) rfl
 have y10:=HX.out.z.fz 10
 have c11:=HX.out.x.get (j:=11) rfl
 have r11:=HX.out.z.get (j:=11) rfl
 have y11:=HX.out.z.fz 11
 have c12:=HX.out.x.get (j:=12) rfl
 have r12:=HX.out.z.get (j:=12) rfl
 have y12:=HX.out.z.fz 12
 have c13:=HX.out.x.get (j:=13) rfl
 have r13:=HX.out.z.get (j:=13) rfl
 have y13:=HX.out.z.fz 13
 have c14:=HX.out.x.get (j:=14) rfl
 have r14:=HX.out.z.get (j:=14) rfl
 have y14:=HX.out.z.fz 14
 have hk9:=Aeo (A6 ⟨E,wn,cond,tx C1,key,val⟩) HX.out.z rfl
 dsimp only [setRow,A6,Nat.zero_add,Nat.reduceAdd] at hk9
 have f0:=hk9.get (j:=0) rfl
 have f1:=hk9.get (j:=1) rfl
 have f2:=hk9.get (j:=2) rfl
 have f3:=hk9.get (j:=3) rfl
 have f4:=hk9.get (j:=4) rfl
 have f5:=hk9.get (j:=5) rfl
 have f6:=hk9.get (j:=6) rfl
 have f7:=hk9.get (j:=7) rfl
 have f8:=hk9.get (j:=8) rfl
 have f9:=hk9.get (j:=9) rfl
 have f10:=hk9.get (j:=10) rfl
 have f11:=hk9.get (j:=11) rfl
 have f12:=hk9.get (j:=12) rfl
 have f13:=hk9.get (j:=13) rfl
 have f14:=hk9.get (j:=14) rfl
 have HKF:=Aa (Mz (A6 ⟨E,wn,cond,tx C1,key,val⟩) 0 HX.out.k (b:=w.heap.size) (.inr (Nat.le_refl _)))
 have hkf2:=Mz (A6 ⟨E,wn,cond,tx C1,key,val⟩) 0 (Ab.refl (fun q=> q=w.heap.size) wc) (b:=w.heap.size) (.inl rfl)
 have HTF:Hid (∀ t∈ [val,key,cond],Nt (fun q=> w.heap.size≤q) (setRow wc w.heap.size 0 (A6 ⟨E,wn,cond,tx C1,key,val⟩)) 6 t.tree t.cells):=fun t ht=> ((HX.out.ts t ht).kept hkf2 fun q hq e=> by omega).mono fun q hq=> by omega
 have HRF:=Aa (Bk.kept HX.out.rd hkf2 fun e=> by have:=HX.out.lt;omega)
 have HTX:Hid ((tx C1).size≤maxLen):=by show _≤_;rw [Am];unfold maxLen;omega
 clear hk9 hkf2
 go_wp2
 refine bodyPost_ret (v:=(⟨E,wn,cond,tx C1,key,val⟩:Ao).agg) (by simp [results,Tryz.results103,go_sem,Ao.agg,f0,f1,f2,f3,f4,f5,f6,f7,f8,f9,f10,f11,f12,f13,f14]) rfl ?_
 refine⟨⟨⟨E,wn,cond,tx C1,key,val⟩,rfl,?_,HTF.out,HTX.out,s5,?_⟩,HKF.out⟩
 ·rw [HD.out,←HCT.out,←HKEY.out,←HVAL.out];rfl
 ·rw [HD.out];exact HRF.out
end Go.Proofs.YtbibeionenjmfaaGreatDoor
