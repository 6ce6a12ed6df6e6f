/- append of a list to a slice of the call's own, as one step of a region that draws. -/
import Derived.Laws.AppendOwnNone
import Derived.Test.YtbibeionenjmfaaGreatDoorZOwn
import Derived.Test.YtbibeionenjmfaaGreatDoorZOpen
set_option linter.unusedSimpArgs false
set_option linter.unusedVariables false
namespace Go.Proofs.YtbibeionenjmfaaGreatDoor
open Go.RowKit
theorem Sl.cells {α:Type} {sz:Nat} {enc:α→List Value} (hsz:∀ x,(enc x).length=sz) (hpos:0 < sz) {w:World} {b off:Nat} {l:List α} (h:Sl sz enc w (some ⟨b,off,none⟩) l):∀ (j:Nat) (u:Value),(l.flatMap enc)[j]?=some u→w.cell? ((⟨b,off,none⟩:Addr).add j)=some u:=by
 intro j u hj
 have hl:∀ l:List α,(l.flatMap enc).length=l.length * sz:=by
  intro l
  induction l with
  | nil=> simp
  | cons a l ih=> rw [List.flatMap_cons,List.length_append,ih,hsz,List.length_cons,Nat.succ_mul];omega
 have hlt:=(List.getElem?_eq_some_iff.1 hj).1
 rw [hl] at hlt
 have h0:0 < l.length:=by
  rcases Nat.eq_zero_or_pos l.length with e | e
  ·rw [e] at hlt;omega
  ·exact e
 obtain⟨b',off',e,_,hc⟩:=h h0
 cases e
 have hi:j / sz < l.length:=by rw [Nat.div_lt_iff_lt_mul hpos];exact hlt
 have hm:j % sz < sz:=Nat.mod_lt _ hpos
 obtain⟨x,hx⟩:∃ x,l[j / sz]?=some x:=⟨_,List.getElem?_eq_getElem hi⟩
 obtain⟨v,hv⟩:∃ v,(enc x)[j % sz]?=some v:=⟨(enc x)[j % sz]'(by rw [hsz];exact hm),List.getElem?_eq_getElem _⟩
 have h1:=H4 hsz (l:=l) (i:=j / sz) (x:=x) hx hv
 rw [show j / sz * sz+j % sz=j by rw [Nat.mul_comm];exact Nat.div_add_mod j sz] at h1
 rw [hj] at h1
 cases h1
 have h2:=hc (j / sz) x (j % sz) u hx hv
 have e:((⟨b,off,none⟩:Addr).add j)=⟨b,off+j,none⟩:=by unfold Addr.add;split <;> simp_all
 rw [e]
 rw [show off+j / sz * sz+j % sz=off+j by rw [Nat.add_assoc,Nat.mul_comm];congr 1;exact Nat.div_add_mod j sz] at h2
 exact h2
theorem Sl.Ac2 {α:Type} {sz:Nat} {enc:α→List Value} (hsz:∀ x,(enc x).length=sz) (hpos:0 < sz) {w:World} {ad:Addr} {l:List α} (h:Sl sz enc w (some ad) l):∀ (j:Nat) (u:Value),(l.flatMap enc)[j]?=some u→w.cell? (ad.add j)=some u:=by
 rcases Nat.eq_zero_or_pos l.length with e | e
 ·obtain rfl:=List.length_eq_zero_iff.1 e
  intro j u hj;simp at hj
 ·obtain⟨b,off,e',_⟩:=h e
  cases e'
  exact Sl.cells hsz hpos h
theorem Sl.kept {α:Type} {sz:Nat} {enc:α→List Value} {S:Nat→Prop} {w w':World} {ao:Option Addr} {l:List α} (h:Sl sz enc w ao l) (k:Ab S w w') (hs:∀ b off,ao=some ⟨b,off,none⟩→¬ S b):Sl sz enc w' ao l:=by
 intro h0
 obtain⟨b,off,e,hlt,hc⟩:=h h0
 exact⟨b,off,e,by have:=k.size;omega,fun i x j v hi hj=> k.cell (hc i x j v hi hj) (hs b off e)⟩
section
variable {α:Type} {sz:Nat} {enc:α→List Value} {e:TypeId} {w:World} {base:Nat} {v:Value} {l:List α}
theorem Sl.Abk {l:List α} (h:Sl sz enc w none l):l= []:=by
 rcases Nat.eq_zero_or_pos l.length with h0 | h0
 ·exact List.length_eq_zero_iff.1 h0
 ·obtain⟨_,_,e,_⟩:=h h0;cases e
theorem J9 {P:Program} {ops:Array Oper} {rest:List Oper} {o:Oper} {a:Act} {Q:Exit→Act→World→Prop} {w0:World} {bytes:Nat} (hsz:∀ x,(enc x).length=sz) (s x:Operand) (t:TypeId) (i:TypeInfo) (z:Value) (hgd:o.guard=none)
 (ho:o.op= .call {callee:= .builtin .append,args:= #[s,x],argTypes:= #[t,t]})
 (ht:P.underlying t=some (.slice e)) (hi:P.info? e=some i) (hz:i.zero=some z) (hsize:i.size=sz) (hby:i.bytes=bytes) (hzs:z.cells.size=sz) (hpos:0 < sz) (hb100:bytes≤100)
 (hown:Own sz enc e w base v l) (hbel:Below base w0 w) (hB:base≤w.heap.size) (l2:List α) (hlen:l.length+l2.length≤1000000000)
 (hs:a.eval s=v) (ao:Option Addr) (c m:Nat) (hm:m=l2.length) (hx:a.eval x= .slice ao m c) (hnil:ao=none→c=0)
 (hsl:Sl sz enc w ao l2) (h1:∀ u∈l2.flatMap enc,u.oneCell'=true)
 (h:∀ v' w',Own sz enc e w' base v' (l++l2)→Below base w0 w'→w.grownBy w' v.ownBlock→(v'.ownBlock=v.ownBlock∨v'.ownBlock=some w.heap.size)→wpList P ops Q rest (a.put o.dst v') w'):wpList P ops Q (o::rest) a w:=by
 cases ao with
 | none=>
   obtain rfl:c=0:=hnil rfl
   obtain rfl:=hsl.Abk
   subst hm
   refine wpList_append_own_none hgd s x t ho base e i sz ht hi v _ _ hs hown.2 hx ?_
   exact h v w (by simpa using hown) hbel ⟨rfl,rfl,rfl,Nat.le_refl _,fun _ _ _=> rfl⟩ (.inl rfl)
 | some ad=>
   exact Jk hsz s x t i z hgd ho ht hi hz hsize hby hzs hpos hb100 hown hbel hB l2 hlen hs ad c m hm hx (Sl.Ac2 hsz hpos hsl) h1 h
theorem Own.shape (h:Own sz enc e w base v l):(v= .slice none 0 0∧l= [])∨∃ g cap,v= .slice (some ⟨g,0,none⟩) l.length cap∧l.length≤cap∧base≤g∧g < w.heap.size:=by
 have h2:=h.lt
 obtain⟨_,hl,hh⟩:=h
 rcases hh with ⟨e,hn⟩ | ⟨g,cap,cur,rfl,hbg,hg,r,_⟩
 ·exact .inl ⟨e,List.length_eq_zero_iff.1 hn⟩
 ·exact .inr ⟨g,cap,rfl,r,h2 g rfl⟩
theorem Own.Ts {ao:Option Addr} {n c:Nat} (h:Own sz enc e w base (.slice ao n c) l):ao=none→c=0:=by
 intro e
 rcases h.shape with ⟨h,_⟩ | ⟨_,_,h,_⟩
 ·injection h
 ·injection h with h1;rw [e] at h1;cases h1
theorem Sl.Apx {ao:Option Addr} (h:Sl sz enc w ao l) (k:Nat):Sl sz enc w ao (l.take k):=by
 intro h0
 obtain⟨b,off,e,hlt,hc⟩:=h (by rw [List.length_take] at h0;omega)
 refine⟨b,off,e,hlt,fun i x j v hi hj=> hc i x j v ?_ hj⟩
 rw [List.getElem?_take] at hi
 split at hi
 ·exact hi
 ·cases hi
theorem Sl.An6 {b off:Nat} (h:Sl sz enc w (some ⟨b,off,none⟩) l) (k:Nat):Sl sz enc w (some ⟨b,off+k * sz,none⟩) (l.drop k):=by
 intro h0
 obtain⟨b',off',e,hlt,hc⟩:=h (by rw [List.length_drop] at h0;omega)
 cases e
 refine⟨b,off+k * sz,rfl,hlt,fun i x j v hi hj=> ?_⟩
 rw [List.getElem?_drop] at hi
 have:=hc (k+i) x j v hi hj
 rwa [Nat.add_mul,←Nat.add_assoc] at this
end
end Go.Proofs.YtbibeionenjmfaaGreatDoor
namespace Go.Proofs.YtbibeionenjmfaaGreatDoor
open Go.RowKit
section
variable {α:Type} {sz:Nat} {enc:α→List Value} {e:TypeId} {w:World} {base:Nat} {v:Value} {l:List α}
theorem Mb {P:Program} {ops:Array Oper} {o:Oper} {a:Act} {K:Act→World→Prop} {Q:Exit→Act→World→Prop} {E:Prop} {w0:World} {bytes:Nat} (hsz:∀ x,(enc x).length=sz) (s x:Operand) (t:TypeId) (i:TypeInfo) (z:Value) (hgd:o.guard=none)
 (ho:o.op= .call {callee:= .builtin .append,args:= #[s,x],argTypes:= #[t,t]})
 (ht:P.underlying t=some (.slice e)) (hi:P.info? e=some i) (hz:i.zero=some z) (hsize:i.size=sz) (hby:i.bytes=bytes) (hzs:z.cells.size=sz) (hpos:0 < sz) (hb100:bytes≤100)
 (hown:Own sz enc e w base v l) (hbel:Below base w0 w) (hB:base≤w.heap.size) (l2:List α) (hlen:l.length+l2.length≤1000000000)
 (hs:a.eval s=v) (ao:Option Addr) (c m:Nat) (hm:m=l2.length) (hx:a.eval x= .slice ao m c) (hnil:ao=none→c=0)
 (hsl:Sl sz enc w ao l2) (h1:∀ u∈l2.flatMap enc,u.oneCell'=true)
 (h:∀ v' w',Own sz enc e w' base v' (l++l2)→Below base w0 w'→w.grownBy w' v.ownBlock→(v'.ownBlock=v.ownBlock∨v'.ownBlock=some w.heap.size)→K (a.put o.dst v') w'):
 if Region.wanted o (yielded ops a.tmps)=true then Oper.wp P o a w K Q else E:=by
 have hw:Region.wanted o (yielded ops a.tmps)=true:=by simp [Region.wanted,hgd]
 rw [if_pos hw]
 cases ao with
 | none=>
   obtain rfl:c=0:=hnil rfl
   obtain rfl:=hsl.Abk
   subst hm
   have hrun:=run_append_owned_none (P:=P) (w:=w) base t o.type e i sz ht hi v _ _ hown.2
   unfold Oper.wp
   simp only [execOp,ho,resolve,invoke,builtin,Sem.run_bind,Sem.run_pure,Result.andThen_ok,List.map_toArray,List.map_cons,List.map_nil,hs,hx,List.length_nil,hrun]
   exact h v w (by simpa using hown) hbel ⟨rfl,rfl,rfl,Nat.le_refl _,fun _ _ _=> rfl⟩ (.inl rfl)
 | some ad=>
   have hl:∀ l:List α,(l.flatMap enc).length=l.length * sz:=by
    intro l
    induction l with
    | nil=> simp
    | cons a l ih=> rw [List.flatMap_cons,List.length_append,ih,hsz,List.length_cons,Nat.succ_mul];omega
   subst hm
   have hb:(l.length+l2.length) * bytes≤1000000000 * 100:=Nat.mul_le_mul hlen hb100
   obtain⟨v',w',hr,h2,h3,_,h5⟩:=run_append_own_at (P:=P) w base t o.type e i z sz bytes ht hi hz hsize hby hzs hpos v l.length _ hown.2 ad l2.length c (l2.flatMap enc) (hl l2) (Sl.Ac2 hsz hpos hsl) h1 (by unfold maxLen;omega) (by omega) hB
   unfold Oper.wp execOp
   simp only [ho,resolve,invoke,builtin,Sem.run_bind,Sem.run_pure,Result.andThen_ok,List.map_toArray,List.map_cons,List.map_nil,hs,hx,hr]
   exact h v' w' (Own.grown h2) (hown.below hbel h3 hB) h3 h5
theorem Ab.Yo {S:Nat→Prop} {w w' w'':World} {row:Option Nat} (h:Ab S w w') (hg:w'.grownBy w'' row) (hr:∀ k,row=some k→S k∨w.heap.size≤k):Ab S w w'':=
 ⟨hg.os.trans h.os,hg.tape.trans h.tape,hg.output.trans h.output,Nat.le_trans h.size hg.size,fun k hk hs=> (hg.block k (by have:=h.size;omega) fun e=> (hr k e.symm).elim hs (by omega)).trans (h.block k hk hs)⟩
end
end Go.Proofs.YtbibeionenjmfaaGreatDoor
