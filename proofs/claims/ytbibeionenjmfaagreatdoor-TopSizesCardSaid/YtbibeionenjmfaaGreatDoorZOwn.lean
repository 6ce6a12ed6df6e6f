/- Slices that a call makes itself: 'Own': a list's cells in a row of the call's own; laws over any program. -/
import Derived.StillTailTactics
import Derived.Maps.AppendAt
import Derived.Test.YtbibeionenjmfaaGreatDoorZSortLaw
set_option linter.unusedSimpArgs false
set_option linter.unusedVariables false
namespace Go.Proofs.YtbibeionenjmfaaGreatDoor
open Go.RowKit
def Own {α:Type} (sz:Nat) (enc:α→List Value) (e:TypeId) (w:World) (base:Nat) (v:Value) (l:List α):Prop:=
 (∃ ao cap,v= .slice ao l.length cap)∧w.ownsRow base e sz v l.length (l.flatMap enc)
section
variable {α:Type} {sz:Nat} {enc:α→List Value} {e:TypeId} {w:World} {base:Nat} {v:Value} {l:List α}
theorem Own.nil:Own sz enc e w base (.slice none 0 0) ([]:List α):=⟨⟨none,0,rfl⟩,World.ownsRow_nil _ _ _ _⟩
theorem Own.addr (h:Own sz enc e w base v l) (h0:0 < l.length):∃ g cap,v= .slice (some ⟨g,0,none⟩) l.length cap∧base≤g∧g < w.heap.size∧(∀ j,w.cell? ⟨g,j,none⟩=(l.flatMap enc)[j]?∨l.length * sz≤j)∧∀ j,w.frozen? ⟨g,j,none⟩=false:=by
 obtain⟨_,hr⟩:=h
 obtain⟨hl,hh⟩:=hr
 rcases hh with ⟨_,hn⟩ | ⟨g,cap,cur,rfl,hb,hg,hc,hm,hcs,ht⟩
 ·omega
 ·refine⟨g,cap,rfl,hb,(Array.getElem?_eq_some_iff.1 hg).1,fun j=> ?_,fun j=> ?_⟩
  ·by_cases hj:j < l.length * sz
   ·exact .inl (World.ownsRow.cellAt ⟨hl, .inr ⟨g,cap,cur,rfl,hb,hg,hc,hm,hcs,ht⟩⟩ j hj)
   ·exact .inr (by omega)
  ·exact World.ownsRow.frozenAt ⟨hl, .inr ⟨g,cap,cur,rfl,hb,hg,hc,hm,hcs,ht⟩⟩ j
theorem Own.sl (hsz:∀ x,(enc x).length=sz) {ao:Option Addr} {cap:Nat} (h:Own sz enc e w base (.slice ao l.length cap) l):Sl sz enc w ao l:=by
 intro h0
 obtain⟨g,cap',hv,hb,hg,hc,_⟩:=h.addr h0
 cases hv
 refine⟨g,0,rfl,hg,fun i x j v hi hj=> ?_⟩
 have hlt:i < l.length:=(List.getElem?_eq_some_iff.1 hi).1
 have hj':j < sz:=by rw [←hsz x];exact(List.getElem?_eq_some_iff.1 hj).1
 rcases hc (i * sz+j) with h1 | h1
 ·rw [Nat.zero_add,h1];exact H4 hsz hi hj
 ·exfalso
  have:(i+1) * sz≤l.length * sz:=Nat.mul_le_mul_right _ hlt
  rw [Nat.succ_mul] at this;omega
theorem Own.lt (h:Own sz enc e w base v l):∀ k,v.ownBlock=some k→base≤k∧k < w.heap.size:=h.2.lt
theorem Own.later {w':World} (h:Own sz enc e w base v l) (hb:Below w.heap.size w w'):Own sz enc e w' base v l:=by
 obtain⟨h1,hr⟩:=h
 refine⟨h1,?_⟩
 obtain⟨hl,hh⟩:=hr
 refine⟨hl,?_⟩
 rcases hh with h | ⟨g,cap,cur,rfl,hbg,hg,r⟩
 ·exact .inl h
 ·exact .inr ⟨g,cap,cur,rfl,hbg,by rw [hb.block g (Array.getElem?_eq_some_iff.1 hg).1];exact hg,r⟩
theorem Own.alloc (h:Own sz enc e w base v l) (o:Obj):Own sz enc e (w.alloc o) base v l:=⟨h.1,h.2.alloc o⟩
theorem Own.drew (h:Own sz enc e w base v l):Own sz enc e w.drew base v l:=h
theorem Own.drewN (h:Own sz enc e w base v l) (n:Nat):Own sz enc e (w.drewN n) base v l:=h
theorem Own.B6 (h:Own sz enc e w base v l) {b:Nat} (hb:b≤base):Own sz enc e w b v l:=by
 obtain⟨h1,hl,hh⟩:=h
 refine⟨h1,hl,?_⟩
 rcases hh with h | ⟨g,cap,cur,rfl,hbg,r⟩
 ·exact .inl h
 ·exact .inr ⟨g,cap,cur,rfl,by omega,r⟩
theorem Own.grown {w':World} {v':Value} {l2:List α} (h:w'.ownsRow base e sz v' (l.length+l2.length) (l.flatMap enc++l2.flatMap enc)):Own sz enc e w' base v' (l++l2):=by
 refine⟨?_,by rw [List.length_append,List.flatMap_append];exact h⟩
 rw [List.length_append]
 rcases h.2 with ⟨rfl,hn⟩ | ⟨g,cap,cur,rfl,_⟩
 ·exact⟨none,0,by rw [hn]⟩
 ·exact⟨_,cap,rfl⟩
theorem Aal (hsz:∀ x,(enc x).length=sz):∀ {l:List α} {k:Nat} {x y:α} {j:Nat} {u:Value},l[k]?=some x→j < sz→enc y=(enc x).set j u→(l.set k y).flatMap enc=(l.flatMap enc).set (k * sz+j) u
 | [],k,x,y,j,u,h,_,_=> by simp at h
 | a::l,0,x,y,j,u,h,hj,hy=> by
   have e:a=x:=by simpa using h
   subst e
   rw [List.set_cons_zero,List.flatMap_cons,List.flatMap_cons,hy,Nat.zero_mul,Nat.zero_add,List.set_append_left _ _ (by rw [hsz];exact hj)]
 | a::l,k+1,x,y,j,u,h,hj,hy=> by
   have h':l[k]?=some x:=by simpa using h
   rw [List.set_cons_succ,List.flatMap_cons,List.flatMap_cons,Aal hsz h' hj hy,List.set_append_right _ _ (by rw [hsz,Nat.succ_mul];omega),hsz]
   congr 2
   rw [Nat.succ_mul];omega
theorem Own.set (hsz:∀ x,(enc x).length=sz) {g cap k j:Nat} {x y:α} {u:Value} (h:Own sz enc e w base (.slice (some ⟨g,0,none⟩) l.length cap) l) (hk:l[k]?=some x) (hj:j < sz) (hy:enc y=(enc x).set j u):
 Own sz enc e (w.setCell ⟨g,k * sz+j,none⟩ u) base (.slice (some ⟨g,0,none⟩) l.length cap) (l.set k y):=by
 refine⟨⟨_,cap,by rw [List.length_set]⟩,?_⟩
 rw [List.length_set,Aal hsz hk hj hy]
 exact(World.ownsRow.stored h.2 _ _).1
theorem Own.below {w0 w':World} (h:Own sz enc e w base v l) (hb:Below base w0 w) (hg:w.grownBy w' v.ownBlock) (hB:base≤w.heap.size):Below base w0 w':=
 hb.grown hg hB fun k hk=> (h.lt k hk).1
theorem Fc {w:World} {cs:Array Value} {t:TypeId} {fr:Nat×Nat} {b:Nat} {l:List Value} (hb:b=w.heap.size) (hl:cs.toList=l):∀ (j:Nat) (u:Value),l[j]?=some u→(w.alloc (.cells cs t fr)).cell? ((⟨b,0,none⟩:Addr).add j)=some u:=by
 subst hb hl
 intro j u h
 have h':cs[j]?=some u:=by simpa using h
 have e:((⟨w.heap.size,0,none⟩:Addr).add j)=⟨w.heap.size,j,none⟩:=by unfold Addr.add;split <;> simp_all
 rw [e]
 unfold World.cell?
 rw [B3]
 simp [h']
theorem Bi {P:Program} {ops:Array Oper} {rest:List Oper} {o:Oper} {a:Act} {Q:Exit→Act→World→Prop} {w0:World} {bytes:Nat} (hsz:∀ x,(enc x).length=sz) (s x:Operand) (t:TypeId) (i:TypeInfo) (z:Value) (hgd:o.guard=none)
 (ho:o.op= .call {callee:= .builtin .append,args:= #[s,x],argTypes:= #[t,t]})
 (ht:P.underlying t=some (.slice e)) (hi:P.info? e=some i) (hz:i.zero=some z) (hsize:i.size=sz) (hby:i.bytes=bytes) (hzs:z.cells.size=sz) (hpos:0 < sz) (hb100:bytes≤100)
 (hown:Own sz enc e w base v l) (hbel:Below base w0 w) (hB:base≤w.heap.size) (hlen:l.length+1≤1000000000)
 (hs:a.eval s=v) (y:α) (ad:Addr) (c:Nat) (hx:a.eval x= .slice (some ad) 1 c)
 (hnews:∀ (j:Nat) (u:Value),(enc y)[j]?=some u→w.cell? (ad.add j)=some u) (h1:∀ u∈enc y,u.oneCell'=true)
 (h:∀ v' w',Own sz enc e w' base v' (l++ [y])→Below base w0 w'→w.grownBy w' v.ownBlock→(v'.ownBlock=v.ownBlock∨v'.ownBlock=some w.heap.size)→wpList P ops Q rest (a.put o.dst v') w'):wpList P ops Q (o::rest) a w:=by
 refine wpList_append_own_at _ hgd s x t ho base e i z sz bytes ht hi hz hsize hby hzs hpos v l.length _ hs hown.2 ad 1 c (enc y) hx (by rw [hsz];omega) hnews h1 (by unfold maxLen;omega) ?_ hB ?_
 ·have:(l.length+1) * bytes≤1000000000 * 100:=Nat.mul_le_mul hlen hb100
  omega
 ·intro v' w' hr hg _ hat
  exact h v' w' (Own.grown (l2:= [y]) (by simpa using hr)) (hown.below hbel hg hB) hg hat
end
section
variable {α:Type} {sz:Nat} {enc:α→List Value} {e:TypeId} {w:World} {base:Nat} {v:Value} {l:List α}
theorem Own.setOther {a:Addr} (h:Own sz enc e w base v l) (hne:v.ownBlock≠some a.block) (u:Value):Own sz enc e (w.setCell a u) base v l:=by
 obtain⟨h1,hl,hh⟩:=h
 refine⟨h1,hl,?_⟩
 rcases hh with h | ⟨g,cap,cur,rfl,hbg,hg,r⟩
 ·exact .inl h
 ·exact .inr ⟨g,cap,cur,rfl,hbg,by rw [Below.heap_setCell w a u g (fun e=> hne (by rw [e];rfl))];exact hg,r⟩
theorem Own.len {a:Option Addr} {n cap:Nat} (h:Own sz enc e w base (.slice a n cap) l):n=l.length:=by
 obtain⟨⟨ao,c,hv⟩,_⟩:=h
 cases hv;rfl
theorem Own.cellAt (hsz:∀ x,(enc x).length=sz) {g n cap i j:Nat} {x:α} {u:Value} (h:Own sz enc e w base (.slice (some ⟨g,0,none⟩) n cap) l) (hi:l[i]?=some x) (hj:(enc x)[j]?=some u):w.cell? ⟨g,i * sz+j,none⟩=some u:=by
 obtain rfl:=h.len
 obtain⟨b,off,e1,_,hc⟩:=h.sl hsz (by have:=(List.getElem?_eq_some_iff.1 hi).1;omega)
 cases e1
 simpa using hc i x j u hi hj
theorem Own.frozenAt {g n cap:Nat} (h:Own sz enc e w base (.slice (some ⟨g,0,none⟩) n cap) l) (j:Nat):w.frozen? ⟨g,j,none⟩=false:=by
 obtain rfl:=h.len
 exact World.ownsRow.frozenAt h.2 j
theorem Own.Pv (hsz:∀ x,(enc x).length=sz) {g n cap k j:Nat} {x y:α} {u:Value} (h:Own sz enc e w base (.slice (some ⟨g,0,none⟩) n cap) l) (hk:l[k]?=some x) (hj:j < sz) (hy:enc y=(enc x).set j u):
 Own sz enc e (w.setCell ⟨g,k * sz+j,none⟩ u) base (.slice (some ⟨g,0,none⟩) n cap) (l.set k y):=by
 obtain rfl:=h.len
 exact Own.set hsz h hk hj hy
theorem Own.blk {g n cap:Nat} (h:Own sz enc e w base (.slice (some ⟨g,0,none⟩) n cap) l):base≤g∧g < w.heap.size:=h.lt g rfl
theorem Own.lit {g:Nat} {cs:Array Value} (hsz:∀ x,(enc x).length=sz) (hb:w.heap[g]?=some (.cells cs e (0,0))) (hg:base≤g) (hc:cs.toList=l.flatMap enc) (hm:l.length≤maxLen):Own sz enc e w base (.slice (some ⟨g,0,none⟩) l.length l.length) l:=by
 have hl:∀ l:List α,(l.flatMap enc).length=l.length * sz:=by
  intro l
  induction l with
  | nil=> simp
  | cons a l ih=> rw [List.flatMap_cons,List.length_append,ih,hsz,List.length_cons,Nat.succ_mul];omega
 have hcs:cs.size=l.length * sz:=by rw [←hl,←hc];simp
 exact⟨⟨_,_,rfl⟩,hl l, .inr ⟨g,l.length,cs,rfl,hg,hb,Nat.le_refl _,hm,hcs,by rw [List.take_of_length_le (by simp [hcs]),hc]⟩⟩
theorem Jk {P:Program} {ops:Array Oper} {rest:List Oper} {o:Oper} {a:Act} {Q:Exit→Act→World→Prop} {w0:World} {bytes:Nat} (hsz:∀ x,(enc x).length=sz) (s x:Operand) (t:TypeId) (i:TypeInfo) (z:Value) (hgd:o.guard=none)
 (ho:o.op= .call {callee:= .builtin .append,args:= #[s,x],argTypes:= #[t,t]})
 (ht:P.underlying t=some (.slice e)) (hi:P.info? e=some i) (hz:i.zero=some z) (hsize:i.size=sz) (hby:i.bytes=bytes) (hzs:z.cells.size=sz) (hpos:0 < sz) (hb100:bytes≤100)
 (hown:Own sz enc e w base v l) (hbel:Below base w0 w) (hB:base≤w.heap.size) (l2:List α) (hlen:l.length+l2.length≤1000000000)
 (hs:a.eval s=v) (ad:Addr) (c m:Nat) (hm:m=l2.length) (hx:a.eval x= .slice (some ad) m c)
 (hnews:∀ (j:Nat) (u:Value),(l2.flatMap enc)[j]?=some u→w.cell? (ad.add j)=some u) (h1:∀ u∈l2.flatMap enc,u.oneCell'=true)
 (h:∀ v' w',Own sz enc e w' base v' (l++l2)→Below base w0 w'→w.grownBy w' v.ownBlock→(v'.ownBlock=v.ownBlock∨v'.ownBlock=some w.heap.size)→wpList P ops Q rest (a.put o.dst v') w'):wpList P ops Q (o::rest) a w:=by
 have hl:∀ l:List α,(l.flatMap enc).length=l.length * sz:=by
  intro l
  induction l with
  | nil=> simp
  | cons a l ih=> rw [List.flatMap_cons,List.length_append,ih,hsz,List.length_cons,Nat.succ_mul];omega
 subst hm
 refine wpList_append_own_at _ hgd s x t ho base e i z sz bytes ht hi hz hsize hby hzs hpos v l.length _ hs hown.2 ad l2.length c (l2.flatMap enc) hx (hl l2) hnews h1 (by unfold maxLen;omega) ?_ hB ?_
 ·have:(l.length+l2.length) * bytes≤1000000000 * 100:=Nat.mul_le_mul hlen hb100
  omega
 ·intro v' w' hr hg _ hat
  exact h v' w' (Own.grown hr) (hown.below hbel hg hB) hg hat
theorem Mt (henc:∀ x,∀ u∈enc x,u.oneCell'=true):∀ u∈l.flatMap enc,u.oneCell'=true:=by
 intro u hu
 obtain⟨x,_,hx⟩:=List.mem_flatMap.1 hu
 exact henc x u hx
theorem Kx:∀ x,∀ u∈Bt x,u.oneCell'=true:=fun x u h=> by simp [Bt] at h;rcases h with h | h <;> subst h <;> rfl
theorem El (hsz:∀ x,(enc x).length=sz) (z:Value) (d:α) (hz:enc d=z.cells.toList) (n:Nat) (hs:z.cells.size=sz):(madeCells z.cells (n * sz)).toList=(List.replicate n d).flatMap enc:=by
 have hlen:((List.replicate n d).flatMap enc).length=n * sz:=by
  induction n with
  | zero=> simp
  | succ n ih=> rw [List.replicate_succ,List.flatMap_cons,List.length_append,ih,hsz,Nat.succ_mul];omega
 apply List.ext_getElem?
 intro j
 by_cases hj:j < n * sz
 ·have h0:0 < sz:=by
   rcases Nat.eq_zero_or_pos sz with h | h
   ·subst h;simp at hj
   ·exact h
  have hi:j / sz < n:=by
   rw [Nat.div_lt_iff_lt_mul h0];exact hj
  have hm:j % sz < sz:=Nat.mod_lt _ h0
  have hd:(enc d)[j % sz]?=some (z.cells[j % sz]'(by rw [hs];exact hm)):=by
   rw [hz];simp [hs,hm]
  have h1:=H4 (enc:=enc) hsz (l:=List.replicate n d) (i:=j / sz) (x:=d) (by simp [hi]) hd
  rw [show j / sz * sz+j % sz=j by rw [Nat.mul_comm];exact Nat.div_add_mod j sz] at h1
  rw [h1]
  simp [madeCells,hj,hs,hm]
 ·rw [List.getElem?_eq_none (by simp [madeCells];omega),List.getElem?_eq_none (by rw [hlen];omega)]
theorem Ld {P:Program} {ops:Array Oper} {rest:List Oper} {o:Oper} {a:Act} {Q:Exit→Act→World→Prop} {w0:World}
 (hsz:∀ x,(enc x).length=sz) (lo c:Operand) (t:TypeId) (i:TypeInfo) (z:Value) (d:α) (n:Nat) (hg:o.guard=none) (hop:o.op=Op.makeSlice t lo c)
 (h1:P.underlying t=some (.slice e)) (h2:P.info? e=some i) (h3:i.zero=some z) (h4:i.size=sz) (hzs:z.cells.size=sz) (hz:enc d=z.cells.toList) (hby:i.bytes≤100)
 (hl:a.eval lo= .int .i64 n) (hc:a.eval c= .int .i64 n) (hn:n≤1000000000) (hbel:Below base w0 w) (hB:base≤w.heap.size)
 (hK:∀ w',Own sz enc e w' base (.slice (some ⟨w.heap.size,0,none⟩) n n) (List.replicate n d)→Below base w0 w'→Below w.heap.size w w'→w.heap.size < w'.heap.size→wpList P ops Q rest (a.put o.dst (.slice (some ⟨w.heap.size,0,none⟩) n n)) w'):
 wpList P ops Q (o::rest) a w:=by
 refine wpList_make_full w hg lo c t hop base e i z sz h1 h2 h3 h4 .i64 .i64 n n n hl hc rfl rfl ?_ (by unfold maxLen;omega) hB ?_
 ·have:=Nat.mul_le_mul hby hn;omega
 ·intro w' hr hgr
  have hlt:w.heap.size < w'.heap.size:=by
   obtain⟨_,hh⟩:=hr
   rcases hh with ⟨h,_⟩ | ⟨g,cap,cur,h,_,hg,_⟩
   ·cases h
   ·cases h;exact(Array.getElem?_eq_some_iff.1 hg).1
  have hb2:Below w.heap.size w w':=(Below.refl _ _).grown hgr (Nat.le_refl _) (fun k h=> by cases h)
  refine hK w' ⟨⟨_,n,by rw [List.length_replicate]⟩,?_⟩ (hbel.grown hgr hB fun k h=> by cases h) hb2 hlt
  rw [List.length_replicate,←El hsz z d hz n hzs];exact hr
end
theorem Bm {P:Program} {id:Nat} {Q:Exit→Act→World→Prop} {a:Act} {w:World} {l:List Oper} (n:Nat) (hm:P.follows .mixedOrders=true) (hB:Region.lexTailB .any l.toArray n=true)
 (h:wpStill P l.toArray w.drew (fun a'=> wpList P l.toArray Q (l.drop n) a' w.drew) (l.take n) a):(Code.region id l.toArray true).wp P Q a w:=
 wp_region_still_tail n hm hB h
structure Ab (S:Nat→Prop) (w w':World):Prop where
 os:w'.os=w.os
 tape:w'.tape=w.tape
 output:w'.output=w.output
 size:w.heap.size≤w'.heap.size
 block:∀ k,k < w.heap.size→¬ S k→w'.heap[k]?=w.heap[k]?
section
variable {S T:Nat→Prop} {w w' w'':World}
theorem Ab.refl (S:Nat→Prop) (w:World):Ab S w w:=⟨rfl,rfl,rfl,Nat.le_refl _,fun _ _ _=> rfl⟩
theorem Ab.trans (h:Ab S w w') (k:Ab S w' w''):Ab S w w'':=
 ⟨k.os.trans h.os,k.tape.trans h.tape,k.output.trans h.output,Nat.le_trans h.size k.size,fun i hi hs=> (k.block i (by have:=h.size;omega) hs).trans (h.block i hi hs)⟩
theorem Ab.mono (h:Ab S w w') (hs:∀ k,S k→T k):Ab T w w':=⟨h.os,h.tape,h.output,h.size,fun k hk ht=> h.block k hk fun h'=> ht (hs k h')⟩
theorem Ab.Ai {B:Nat} (h:Below B w w') (hB:w.heap.size≤B):Ab S w w':=⟨h.os,h.tape,h.output,h.size,fun k hk _=> h.block k (by omega)⟩
theorem Ab.setCell (h:Ab S w w') {p:Addr} (hp:S p.block) (u:Value):Ab S w (w'.setCell p u):=
 h.trans ⟨rfl,rfl,rfl,by simp [World.setCell],fun k _ hs=> Below.heap_setCell _ _ _ _ (fun e=> hs (by rw [e];exact hp))⟩
theorem Ab.Es (h:Ab S w w') {p:Addr} (hp:w.heap.size≤p.block) (u:Value):Ab S w (w'.setCell p u):=
 ⟨h.os,h.tape,h.output,by simpa [World.setCell] using h.size,fun k hk hs=> (Below.heap_setCell w' p u k (by omega)).trans (h.block k hk hs)⟩
theorem Ab.alloc (h:Ab S w w') (o:Obj):Ab S w (w'.alloc o):=
 h.trans ⟨rfl,rfl,rfl,by simp,fun k hk _=> Below.heap_alloc _ _ _ hk⟩
theorem Ab.drewN (h:Ab S w w') (n:Nat):Ab S w (w'.drewN n):=h.trans ⟨rfl,rfl,rfl,Nat.le_refl _,fun _ _ _=> rfl⟩
theorem Ab.drew (h:Ab S w w'):Ab S w w'.drew:=h.trans ⟨rfl,rfl,rfl,Nat.le_refl _,fun _ _ _=> rfl⟩
theorem Ab.below (h:Ab S w w') {B:Nat} (hS:∀ k,S k→B≤k) (hB:B≤w.heap.size):Below B w w':=⟨h.os,h.tape,h.output,h.size,fun k hk=> h.block k (by omega) fun h'=> by have:=hS k h';omega⟩
theorem Ab.A9 {row:Option Nat} (hg:w.grownBy w' row) (hr:∀ k,row=some k→S k):Ab S w w':=
 ⟨hg.os,hg.tape,hg.output,hg.size,fun k hk hs=> hg.block k hk fun e=> hs (hr k e.symm)⟩
theorem Ab.grown {row:Option Nat} (h:Ab S w w') (hg:w'.grownBy w'' row) (hr:∀ k,row=some k→w.heap.size≤k):Ab S w w'':=
 ⟨hg.os.trans h.os,hg.tape.trans h.tape,hg.output.trans h.output,Nat.le_trans h.size hg.size,fun k hk hs=> (hg.block k (by have:=h.size;omega) fun e=> by have:=hr k e.symm;omega).trans (h.block k hk hs)⟩
theorem Ab.cell (h:Ab S w w') {a:Addr} {v:Value} (hc:w.cell? a=some v) (hs:¬ S a.block):w'.cell? a=some v:=by
 rw [World.cell?_of_block (h.block a.block (World.block_lt_of_cell? w a hc) hs)];exact hc
theorem Ab.own {α:Type} {sz:Nat} {enc:α→List Value} {e:TypeId} {base:Nat} {v:Value} {l:List α} (h:Ab S w w') (ho:Own sz enc e w base v l) (hs:∀ k,v.ownBlock=some k→¬ S k):Own sz enc e w' base v l:=by
 obtain⟨h1,hl,hh⟩:=ho
 refine⟨h1,hl,?_⟩
 rcases hh with hh | ⟨g,cap,cur,rfl,hbg,hg,r⟩
 ·exact .inl hh
 ·exact .inr ⟨g,cap,cur,rfl,hbg,by rw [h.block g (Array.getElem?_eq_some_iff.1 hg).1 (hs g rfl)];exact hg,r⟩
end
def Bk (w:World) (b:Nat) (cs:List Value):Prop:=b < w.heap.size∧(∀ (j:Nat) v,cs[j]?=some v→w.cell? ⟨b,j,none⟩=some v)∧∀ j,w.frozen? ⟨b,j,none⟩=false
theorem Bk.lt {w:World} {b:Nat} {cs:List Value} (h:Bk w b cs):b < w.heap.size:=h.1
theorem Bk.get {w:World} {b:Nat} {cs:List Value} (h:Bk w b cs) {j:Nat} {v:Value} (hj:cs[j]?=some v):w.cell? ⟨b,j,none⟩=some v:=h.2.1 j v hj
theorem Bk.fz {w:World} {b:Nat} {cs:List Value} (h:Bk w b cs) (j:Nat):w.frozen? ⟨b,j,none⟩=false:=h.2.2 j
theorem Bk.kept {S:Nat→Prop} {w w':World} {b:Nat} {cs:List Value} (h:Bk w b cs) (k:Ab S w w') (hs:¬ S b):Bk w' b cs:=
 ⟨Nat.lt_of_lt_of_le h.1 k.size,fun j v hj=> k.cell (h.2.1 j v hj) hs,fun j=> by rw [World.frozen?_of_block (k.block b h.1 hs)];exact h.2.2 j⟩
theorem Bk.later {w w':World} {b:Nat} {cs:List Value} (h:Bk w b cs) (k:Below w.heap.size w w'):Bk w' b cs:=h.kept (Ab.Ai (S:=fun _=> False) k (Nat.le_refl _)) id
theorem Bk.alloc {w:World} {b:Nat} {cs:List Value} (h:Bk w b cs) (o:Obj):Bk (w.alloc o) b cs:=h.later ((Below.refl _ _).alloc (Nat.le_refl _) _)
theorem Bk.new {w:World} {cs:Array Value} {t:TypeId} {l:List Value} (hl:cs.toList=l):Bk (w.alloc (.cells cs t)) w.heap.size l:=by
 have e:=B3 w (.cells cs t)
 refine⟨by simp,fun j v hj=> ?_,fun j=> ?_⟩
 ·subst hl
  simp only [World.cell?]
  rw [e]
  simpa using hj
 ·unfold World.frozen?
  rw [e]
  simp
def Mi {α:Type} (p:α→Bool) (l:List α):Int:=match l.findIdx? p with
 | some i=> i
 | none=> -1
theorem Aai {α:Type} {p:α→Bool} {l:List α} {k:Nat} {x:α} (h:l[k]?=some x) (hp:p x=true) (hn:∀ (i:Nat) y,i < k→l[i]?=some y→p y=false):Mi p l=k:=by
 unfold Mi
 have hlt:=(List.getElem?_eq_some_iff.1 h).1
 have:l.findIdx? p=some k:=by
  rw [List.findIdx?_eq_some_iff_getElem]
  refine⟨hlt,by rw [(List.getElem?_eq_some_iff.1 h).2];exact hp,fun j hj=> ?_⟩
  have:=hn j l[j] hj (List.getElem?_eq_getElem _)
  simp [this]
 rw [this]
theorem Aah {α:Type} {p:α→Bool} {l:List α} (hn:∀ (i:Nat) y,i < l.length→l[i]?=some y→p y=false):Mi p l= -1:=by
 unfold Mi
 have:l.findIdx? p=none:=by
  rw [List.findIdx?_eq_none_iff]
  intro x hx
  obtain⟨i,hi⟩:=List.getElem?_of_mem hx
  exact hn i x (List.getElem?_eq_some_iff.1 hi).1 hi
 rw [this]
theorem Cs {α:Type} {sz:Nat} {enc:α→List Value} {e:TypeId} {w:World} {base:Nat} {v:Value} {l:List α} {P:Program} {ops:Array Oper} {o:Oper} {a:Act} {K:Act→World→Prop} {Q:Exit→Act→World→Prop} {E:Prop} {w0:World} {bytes:Nat} (hsz:∀ x,(enc x).length=sz) (s x:Operand) (t:TypeId) (i:TypeInfo) (z:Value) (hgd:o.guard=none)
 (ho:o.op= .call {callee:= .builtin .append,args:= #[s,x],argTypes:= #[t,t]})
 (ht:P.underlying t=some (.slice e)) (hi:P.info? e=some i) (hz:i.zero=some z) (hsize:i.size=sz) (hby:i.bytes=bytes) (hzs:z.cells.size=sz) (hpos:0 < sz) (hb100:bytes≤100)
 (hown:Own sz enc e w base v l) (hbel:Below base w0 w) (hB:base≤w.heap.size) (hlen:l.length+1≤1000000000)
 (hs:a.eval s=v) (y:α) (ad:Addr) (c:Nat) (hx:a.eval x= .slice (some ad) 1 c)
 (hnews:∀ (j:Nat) (u:Value),(enc y)[j]?=some u→w.cell? (ad.add j)=some u) (h1:∀ u∈enc y,u.oneCell'=true)
 (h:∀ v' w',Own sz enc e w' base v' (l++ [y])→Below base w0 w'→w.grownBy w' v.ownBlock→(v'.ownBlock=v.ownBlock∨v'.ownBlock=some w.heap.size)→K (a.put o.dst v') w'):
 if Region.wanted o (yielded ops a.tmps)=true then Oper.wp P o a w K Q else E:=by
 have hw:Region.wanted o (yielded ops a.tmps)=true:=by simp [Region.wanted,hgd]
 rw [if_pos hw]
 have hb:(l.length+1) * bytes≤1000000000 * 100:=Nat.mul_le_mul hlen hb100
 obtain⟨v',w',hr,h2,h3,_,h5⟩:=run_append_own_at (P:=P) w base t o.type e i z sz bytes ht hi hz hsize hby hzs hpos v l.length _ hown.2 ad 1 c (enc y) (by rw [hsz];omega) hnews h1 (by unfold maxLen;omega) (by omega) hB
 unfold Oper.wp execOp
 simp only [ho,resolve,invoke,builtin,Sem.run_bind,Sem.run_pure,Result.andThen_ok,List.map_toArray,List.map_cons,List.map_nil,hs,hx,hr]
 exact h v' w' (Own.grown (l2:= [y]) (by simpa using h2)) (hown.below hbel h3 hB) h3 h5
theorem Bk.set {w:World} {b k:Nat} {cs:List Value} {u:Value} (h:Bk w b cs) (v:Value) (hk:cs[k]?=some u):Bk (w.setCell ⟨b,k,none⟩ v) b (cs.set k v):=by
 refine⟨by simpa [World.setCell] using h.1,fun j x hj=> ?_,fun j=> by rw [World.frozen?_setCell];exact h.2.2 j⟩
 by_cases e:k=j
 ·subst e
  rw [List.getElem?_set_self (List.getElem?_eq_some_iff.1 hk).1] at hj
  cases hj
  exact Z6 (h.get hk)
 ·rw [List.getElem?_set_ne e] at hj
  exact G0 (h.get hj) (fun e'=> e (by cases e';rfl))
theorem Bk.Gx {w:World} {b:Nat} {cs:List Value} (h:Bk w b cs) {p:Addr} (hp:p.block≠b) (v:Value):Bk (w.setCell p v) b cs:=
 h.kept (S:=fun q=> q=p.block) ((Ab.refl (fun q=> q=p.block) w).setCell rfl v) (fun e=> hp e.symm)
end Go.Proofs.YtbibeionenjmfaaGreatDoor
