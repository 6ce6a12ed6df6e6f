/- HeldE's steps in few words: what the kernel reckons is left to it. -/
import Derived.Lib.QuietBelow
import Derived.StillTail
import Derived.Test.YtbibeionenjmfaaGreatDoorZSortLaw
import Derived.Deep.RegionHeld3
set_option linter.unusedSimpArgs false
set_option linter.unusedVariables false
namespace Go.Proofs.YtbibeionenjmfaaGreatDoor
open Go.RowKit
section
variable {P:Program} {ops:Array Oper} {md:Region.Mode} {C:World→Prop}
def P4 (P:Program) (md:Region.Mode) (ops:Array Oper) (C:World→Prop) (n:Nat) (L:Array Bool→Act→Prop):Nat→Array Bool→Act→Prop
 | 0,listed,a=> L listed a
 | f+1,listed,a=>
   Region.ready md ops listed≠ []∧∀ i∈Region.ready md ops listed,i < n∧qOp P ops C i (P4 P md ops C n L f (listed.setIfInBounds i true)) a
theorem Nd {n g:Nat} {L:Array Bool→Act→Prop} {Q':Exit→Act→World→Prop} (hL:∀ listed a w,C w→L listed a→wpAny P md ops Q' g listed a w):
 ∀ (f:Nat) (listed:Array Bool) (a:Act) (w:World),C w→P4 P md ops C n L f listed a→wpAny P md ops Q' (f+g) listed a w
 | 0,listed,a,w,hw,h=> by rw [Nat.zero_add];exact hL _ _ _ hw h
 | f+1,listed,a,w,hw,h=> by
   rw [show f+1+g=(f+g)+1 by omega]
   exact⟨fun h0=> absurd h0 h.1,fun i hi=> wpOp_of_qOp hw (fun a' w' hw' h'=> Nd hL f _ a' w' hw' h') (h.2 i hi).2⟩
theorem V7 {n i:Nat} {oi:Oper} {v:Value} {L:Array Bool→Act→Prop} (hi:ops[i]?=some oi) (hsel:∀ (j:Nat) (o:Oper) cs b,ops[j]?=some o→o.op≠ .select cs b)
 (hs:Region.sinkB md ops n=true) (hc:Region.chainB md ops n=true) (hn:n < ops.size) (hin:i < n)
 (hdone:∀ listed a,L listed a→∀ j∈Region.ready md ops listed,n≤j):
 ∀ (f:Nat) (listed:Array Bool) (a:Act),HeadInv md ops n listed→
   (∀ j oj,ops[j]?=some oj→j≠i→listed.getD j true=false→(∀ e∈oj.after,Region.binds md e=true→e.on≠i)→oi.apart ops oj=true)→
   i∈Region.ready md ops listed→YieldsIn P ops C oi v a→
   P4 P md ops C n L f (listed.setIfInBounds i true) (a.put oi.dst v)→P4 P md ops C n L (f+1) listed a:=by
 intro f
 induction f with
 | zero=>
   intro listed a inv _ hr hy H
   have hun:=(mem_ready.1 hr).1
   refine⟨fun h=> (by rw [h] at hr;cases hr),fun j hj=> ?_⟩
   have hjn:j < n:=by
    rcases Nat.lt_or_ge j n with h | h
    ·exact h
    ·exact absurd hj (tail_waits hs hc hn inv _ i rfl hin hun j h)
   refine⟨hjn,?_⟩
   by_cases hji:j=i
   ·subst hji;exact hy.qOp hi H
   ·have:=hdone _ _ H j (ready_mono hj hji)
    omega
 | succ f ih=>
   intro listed a inv hfree hr hy H
   have hun:=(mem_ready.1 hr).1
   refine⟨fun h=> (by rw [h] at hr;cases hr),fun j hj=> ?_⟩
   have hjn:j < n:=by
    rcases Nat.lt_or_ge j n with h | h
    ·exact h
    ·exact absurd hj (tail_waits hs hc hn inv _ i rfl hin hun j h)
   refine⟨hjn,?_⟩
   by_cases hji:j=i
   ·subst hji;exact hy.qOp hi H
   ·have h1:=(H.2 j (ready_mono hj hji)).2
    obtain⟨hjun,oj,hoj,hall⟩:=mem_ready.1 hj
    have hnot:∀ e∈oj.after,Region.binds md e=true→e.on≠i:=fun e he hb heq=> by
     have h1:=hall e he hb
     rw [heq,getD_both hun] at h1
     cases h1
    have h2:=qOp_put hoj (hfree j oj hoj hji hjun hnot) (fun cs b=> hsel i oi cs b hi) (fun cs b=> hsel j oj cs b hoj) hy h1
    have hfree':∀ k ok,ops[k]?=some ok→k≠i→(listed.setIfInBounds j true).getD k true=false→
     (∀ e∈ok.after,Region.binds md e=true→e.on≠i)→oi.apart ops ok=true:=fun k ok hk hki hun hno=> by
     refine hfree k ok hk hki ?_ hno
     by_cases hjk:j=k
     ·subst hjk;exact hjun
     ·rw [getD_set_ne true hjk] at hun;exact hun
    refine qOp_mono (fun a' h3=> ih (listed.setIfInBounds j true) a' (inv.set hj hjn) hfree' (ready_mono hr (Ne.symm hji)) h3.1 ?_) h2
    rw [Array.setIfInBounds_comm _ _ hji]
    exact h3.2
theorem Sq {n g:Nat} {Lq:Act→Prop} (hsel:Region.noSelect ops=true) (hs:Region.sinkB md ops n=true) (hc:Region.chainB md ops n=true) (hn:n < ops.size):
 ∀ (l:List Oper) (k:Nat) (listed:Array Bool) (a:Act),(∀ j,j < l.length→l[j]?=ops[k+j]?)→k+l.length=n→HeadInv md ops n listed→
 Region.lexHead md ops g l.length k listed=true→wpQuiet P ops C Lq l a→
 P4 P md ops C n (fun listed' a'=> Region.seqB md ops g n listed'=true∧Lq a') l.length listed a
 | [],k,listed,a,_,hk,_,hB,h=> by
   have:k=n:=by simpa using hk
   subst this
   exact⟨by simpa [Region.lexHead] using hB,h⟩
 | o::l,k,listed,a,hl,hk,inv,hB,h=> by
   have h0:ops[k]?=some o:=by simpa using (hl 0 (by simp)).symm
   simp only [List.length_cons,Region.lexHead,Bool.and_eq_true] at hB
   obtain⟨⟨hr,hf⟩,hB'⟩:=hB
   have hkn:k < n:=by simp only [List.length_cons] at hk;omega
   have hr':k∈Region.ready md ops listed:=by simpa using hr
   have hst:qOp P ops C k (wpQuiet P ops C Lq l) a:=by unfold qOp;simp only [h0];exact h
   obtain⟨v,hy,hK⟩:=yieldsIn_of_qOp h0 hst
   exact V7 h0 (Region.noSelect_spec hsel) hs hc hn hkn (fun listed' a' hL=> seqB_ready hL.1) l.length listed a inv (Region.free_spec h0 hf) hr' hy
    (Sq hsel hs hc hn l (k+1) _ _ (fun j hj=> by have:=hl (j+1) (by simp;omega);simpa [Nat.add_assoc,Nat.add_comm 1 j] using this) (by simp only [List.length_cons] at hk;omega) (inv.set hr' hkn) hB' hK)
theorem Nf {id:Nat} {Q:Exit→Act→World→Prop} {a:Act} {w:World} {l:List Oper} (n:Nat) (hm:P.follows .mixedOrders=true) (hB:Region.lexTailB .any l.toArray n=true) (hC:C {w with drawn:=w.drawn+1})
 (h:wpQuiet P l.toArray C (fun a'=> ∀ w',C w'→wpList P l.toArray Q (l.drop n) a' w') (l.take n) a):(Code.region id l.toArray true).wp P Q a w:=by
 simp only [Region.lexTailB,Bool.and_eq_true,decide_eq_true_eq] at hB
 obtain⟨⟨⟨⟨hsel,hn⟩,hs⟩,hc⟩,hlex⟩:=hB
 have hn':n < l.length:=by simpa using hn
 have htl:(l.take n).length=n:=by simp;omega
 have hdl:(l.drop n).length=l.toArray.size - n:=by simp
 have inv0:HeadInv .any l.toArray n (Array.replicate l.toArray.size false):=
  ⟨by simp,fun j oj _ hl=> (by rw [getD_replicate_false] at hl;cases hl),fun t _ ht=> getD_in (by simpa using ht) (getD_replicate_false _ _)⟩
 have H:=Sq (md:= .any) (C:=C) (g:=l.toArray.size - n) hsel hs hc hn (l.take n) 0 _ a (fun j hj=> by
  have hj':j < n:=by rw [htl] at hj;exact hj
  simp [hj']) (by simpa using htl) inv0 (by rw [htl];exact hlex) h
 refine wp_region_any hm ?_
 have:=Nd (Q':=Q) (g:=l.toArray.size - n) (fun listed a' w' hw' hL=> by
  have:=wpAny_of_seq (md:= .any) (Q':=Q) (l.drop n) n listed a' w' (fun j=> by simp [List.getElem?_drop]) (by rw [hdl];exact hL.1) (hL.2 w' hw')
  rwa [hdl] at this) _ _ _ _ hC H
 rw [htl,show n+(l.toArray.size - n)=l.toArray.size by omega] at this
 exact this
theorem D3 {id:Nat} {Q:Exit→Act→World→Prop} {a:Act} {w:World} {l:List Oper} (n:Nat) (hm:P.follows .mixedOrders=true) (hB:Region.lexTailB .any l.toArray n=true)
 (h:wpQuiet P l.toArray (fun w'=> ∃ p:Regrown,w'=Go.Sort.grow (redrawn w p.d) p.os) (fun a'=> ∀ w',(∃ p:Regrown,w'=Go.Sort.grow (redrawn w p.d) p.os)→wpList P l.toArray Q (l.drop n) a' w') (l.take n) a):(Code.region id l.toArray true).wp P Q a w:=
 Nf (C:=fun w'=> ∃ p:Regrown,w'=Go.Sort.grow (redrawn w p.d) p.os) n hm hB ⟨⟨w.drawn+1, #[]⟩,by rw [Go.Sort.grow_empty];rfl⟩ h
def Yk (md:Region.Mode) (ops:Array Oper) (l0:Array Bool):Bool:=
 (List.range ops.size).all fun j=> !l0.getD j false || ((ops[j]?).map fun o=> o.after.all fun e=> !Region.binds md e || l0.getD e.on false).getD true
theorem Is {f:FuncId} {args:Array Value} {w:World} {d:Nat} {os:Array Obj} {v:Value}
 (h:Calls P f args (Go.Sort.grow (redrawn w d) os) fun e w'=> e= .returned v∧Go.Sort.grow (redrawn w d) os=w'):Calls P f args (Go.Sort.grow (redrawn w d) os) fun e w''=> e= .returned v∧∃ p:Regrown,w''=Go.Sort.grow (redrawn w p.d) p.os:=
 h.mono fun _ _ ⟨he,hb⟩=> ⟨he,⟨⟨d,os⟩,hb.symm⟩⟩
end
end Go.Proofs.YtbibeionenjmfaaGreatDoor
namespace Go.Proofs.YtbibeionenjmfaaGreatDoor
open Go.RowKit
section
variable {P:Program} {ops:Array Oper} {md:Region.Mode} {Q:Exit→Act→World→Prop} {S:World→Prop} {E:List Nat}
def Cw (P:Program) (md:Region.Mode) (ops:Array Oper) (Q:Exit→Act→World→Prop) (S:World→Prop) (E:List Nat):Nat→Array Bool→Act→World→Prop
 | 0,listed,a,w=> Region.ready md ops listed= []∧Q .normal a w
 | fuel+1,listed,a,w=>
   (Region.ready md ops listed= []→Q .normal a w)∧
   ∀ i∈Region.ready md ops listed,wpOp P ops Q i (fun a' w'=> (E.contains i=false→S w→S w')∧Cw P md ops Q S E fuel (listed.setIfInBounds i true) a' w') a w
theorem Nc:∀ (fuel:Nat) (listed:Array Bool) (a:Act) (w:World),Cw P md ops Q S E fuel listed a w→wpAny P md ops Q fuel listed a w
 | 0,_,_,_,h=> h
 | fuel+1,_,_,_,h=> ⟨h.1,fun i hi=> wpOp_mono (fun a' w' h'=> Nc fuel _ a' w' h'.2) (h.2 i hi)⟩
def R6 (md:Region.Mode) (ops:Array Oper):List Nat→Bool
 | j::i::r=> Region.waitsFor md ops j i && R6 md ops (i::r)
 | _=> true
def Lf (md:Region.Mode) (ops:Array Oper) (listed:Array Bool):Prop:=∀ (j:Nat) oj,ops[j]?=some oj→listed.getD j false=true→∀ e∈oj.after,Region.binds md e=true→listed.getD e.on false=true
theorem Lf.of {listed:Array Bool} (h:Yk md ops listed=true):Lf md ops listed:=fun j oj hj hl e he hb=> by
 have hjlt:=(Array.getElem?_eq_some_iff.1 hj).1
 have h1:=List.all_eq_true.1 h j (List.mem_range.2 hjlt)
 simp only [hl,hj,Bool.not_true,Bool.false_or,Option.map_some,Option.getD_some] at h1
 have h2:=(Array.all_eq_true'.1 h1) e he
 simpa [hb] using h2
theorem Lf.set {listed:Array Bool} {i:Nat} (h:Lf md ops listed) (hi:i∈Region.ready md ops listed):Lf md ops (listed.setIfInBounds i true):=fun j oj hj hl e he hb=> by
 obtain⟨_,oi,hoi,hall⟩:=mem_ready.1 hi
 by_cases hij:i=j
 ·subst hij
  have:oj=oi:=Option.some.inj (hj.symm.trans hoi)
  subst this
  exact getD_set_true (hall e he hb)
 ·rw [getD_set_ne false hij] at hl
  exact getD_set_true (h j oj hj hl e he hb)
theorem R7 {listed:Array Bool} (hc:Lf md ops listed):∀ (l:List Nat) (j:Nat),listed.getD j false=true→R6 md ops (j::l)=true→∀ i∈l,listed.getD i false=true
 | [],_,_,_,i,hi=> by cases hi
 | k::l,j,hj,hp,i,hi=> by
   simp only [R6,Bool.and_eq_true] at hp
   obtain⟨oj,hoj,e,he,hb,hon⟩:=Region.waitsFor_spec hp.1
   have hk:listed.getD k false=true:=hon ▸ hc j oj hoj hj e he hb
   rcases List.mem_cons.1 hi with rfl | hi
   ·exact hk
   ·exact R7 hc l k hk hp.2 i hi
theorem Aed {listed:Array Bool} (hc:Lf md ops listed) {j:Nat} (hj:j∈Region.ready md ops listed):∀ {l:List Nat},R6 md ops (j::l)=true→∀ i∈l,listed.getD i false=true
 | [],_,i,hi=> by cases hi
 | k::l,hp,i,hi=> by
   simp only [R6,Bool.and_eq_true] at hp
   obtain⟨oj,hoj,e,he,hb,hon⟩:=Region.waitsFor_spec hp.1
   obtain⟨_,oj',hoj',hall⟩:=mem_ready.1 hj
   have:oj=oj':=Option.some.inj (hoj.symm.trans hoj')
   subst this
   have hk:listed.getD k false=true:=hon ▸ hall e he hb
   rcases List.mem_cons.1 hi with rfl | hi
   ·exact hk
   ·exact R7 hc l k hk hp.2 i hi
def Qx (md:Region.Mode) (ops:Array Oper) (i:Nat):List Nat→List (List Nat)→Bool
 | [],_=> true
 | e::E,p::ps=> R6 md ops (e::p) && (p.contains i && Qx md ops i E ps)
 | _::_, []=> false
theorem Xp {i:Nat}:∀ {E:List Nat} {ps:List (List Nat)},Qx md ops i E ps=true→∀ j∈E,∃ p,R6 md ops (j::p)=true∧i∈p
 | [],_,_,j,hj=> by cases hj
 | e::E, [],h,_,_=> by simp [Qx] at h
 | e::E,p::ps,h,j,hj=> by
   simp only [Qx,Bool.and_eq_true] at h
   rcases List.mem_cons.1 hj with rfl | hj
   ·exact⟨p,h.1,by simpa using h.2.1⟩
   ·exact Xp h.2.2 j hj
theorem V6 {i:Nat} {oi:Oper} {v:Value} (hi:ops[i]?=some oi) (hsel:∀ (j:Nat) (o:Oper) cs b,ops[j]?=some o→o.op≠ .select cs b)
 (hQ:∀ c a w,Q (.panic c) (a.put oi.dst v) w→Q (.panic c) a w) (hE:∀ j∈E,∃ p,R6 md ops (j::p)=true∧i∈p):
 ∀ (fuel:Nat) (listed:Array Bool) (a:Act) (w:World),Lf md ops listed→
   (∀ j oj,ops[j]?=some oj→j≠i→listed.getD j true=false→(∀ e∈oj.after,Region.binds md e=true→e.on≠i)→oi.apart ops oj=true)→
   i∈Region.ready md ops listed→YieldsIf P ops S oi v a→S w→
   Cw P md ops Q S E fuel (listed.setIfInBounds i true) (a.put oi.dst v) w→Cw P md ops Q S E (fuel+1) listed a w:=by
 intro fuel
 induction fuel with
 | zero=>
   intro listed a w _ _ hr hy hS H
   refine⟨fun h=> (by rw [h] at hr;cases hr),fun j hj=> ?_⟩
   by_cases hji:j=i
   ·subst hji;exact hy.wpOp hi hS ⟨fun _ h=> h,H⟩
   ·have:=ready_mono hj hji
    rw [H.1] at this
    cases this
 | succ fuel ih=>
   intro listed a w hcl hfree hr hy hS H
   refine⟨fun h=> (by rw [h] at hr;cases hr),fun j hj=> ?_⟩
   by_cases hji:j=i
   ·subst hji;exact hy.wpOp hi hS ⟨fun _ h=> h,H⟩
   ·have h1:=H.2 j (ready_mono hj hji)
    obtain⟨hjun,oj,hoj,hall⟩:=mem_ready.1 hj
    have hiun:=(mem_ready.1 hr).1
    have hnot:∀ e∈oj.after,Region.binds md e=true→e.on≠i:=fun e he hb heq=> by
     have h1:=hall e he hb
     rw [heq,getD_both hiun] at h1
     cases h1
    have hjE:E.contains j=false:=by
     rw [Bool.eq_false_iff]
     intro h
     obtain⟨p,hp,hip⟩:=hE j (by simpa using h)
     have:=Aed hcl hj hp i hip
     rw [getD_both hiun] at this
     cases this
    have h2:=wpOp_putIf hoj (hfree j oj hoj hji hjun hnot) (fun cs b=> hsel i oi cs b hi) (fun cs b=> hsel j oj cs b hoj) hQ hy h1
    have hfree':∀ k ok,ops[k]?=some ok→k≠i→(listed.setIfInBounds j true).getD k true=false→
     (∀ e∈ok.after,Region.binds md e=true→e.on≠i)→oi.apart ops ok=true:=fun k ok hk hki hun hno=> by
     refine hfree k ok hk hki ?_ hno
     by_cases hjk:j=k
     ·subst hjk;exact hjun
     ·rw [getD_set_ne true hjk] at hun;exact hun
    refine wpOp_mono (fun a' w' h3=> ⟨h3.2.1,ih (listed.setIfInBounds j true) a' w' (hcl.set hj) hfree' (ready_mono hr (Ne.symm hji)) h3.1 (h3.2.1 hjE hS) ?_⟩) h2
    rw [Array.setIfInBounds_comm _ _ hji]
    exact h3.2.2
theorem Vk {i:Nat} {oi:Oper} {v:Value} (hi:ops[i]?=some oi) (hsel:∀ (j:Nat) (o:Oper) cs b,ops[j]?=some o→o.op≠ .select cs b)
 (hQ:∀ c a w,Q (.panic c) (a.put oi.dst v) w→Q (.panic c) a w):
 ∀ (fuel:Nat) (listed:Array Bool) (a:Act) (w:World),
   (∀ j oj,ops[j]?=some oj→j≠i→listed.getD j true=false→(∀ e∈oj.after,Region.binds md e=true→e.on≠i)→oi.apart ops oj=true)→
   i∈Region.ready md ops listed→YieldsIf P ops (fun _=> True) oi v a→
   Cw P md ops Q S E fuel (listed.setIfInBounds i true) (a.put oi.dst v) w→Cw P md ops Q S E (fuel+1) listed a w:=by
 intro fuel
 induction fuel with
 | zero=>
   intro listed a w _ hr hy H
   refine⟨fun h=> (by rw [h] at hr;cases hr),fun j hj=> ?_⟩
   by_cases hji:j=i
   ·subst hji;exact hy.wpOp hi trivial ⟨fun _ h=> h,H⟩
   ·have:=ready_mono hj hji
    rw [H.1] at this
    cases this
 | succ fuel ih=>
   intro listed a w hfree hr hy H
   refine⟨fun h=> (by rw [h] at hr;cases hr),fun j hj=> ?_⟩
   by_cases hji:j=i
   ·subst hji;exact hy.wpOp hi trivial ⟨fun _ h=> h,H⟩
   ·have h1:=H.2 j (ready_mono hj hji)
    obtain⟨hjun,oj,hoj,hall⟩:=mem_ready.1 hj
    have hiun:=(mem_ready.1 hr).1
    have hnot:∀ e∈oj.after,Region.binds md e=true→e.on≠i:=fun e he hb heq=> by
     have h1:=hall e he hb
     rw [heq,getD_both hiun] at h1
     cases h1
    have h2:=wpOp_putIf hoj (hfree j oj hoj hji hjun hnot) (fun cs b=> hsel i oi cs b hi) (fun cs b=> hsel j oj cs b hoj) hQ hy h1
    have hfree':∀ k ok,ops[k]?=some ok→k≠i→(listed.setIfInBounds j true).getD k true=false→
     (∀ e∈ok.after,Region.binds md e=true→e.on≠i)→oi.apart ops ok=true:=fun k ok hk hki hun hno=> by
     refine hfree k ok hk hki ?_ hno
     by_cases hjk:j=k
     ·subst hjk;exact hjun
     ·rw [getD_set_ne true hjk] at hun;exact hun
    refine wpOp_mono (fun a' w' h3=> ⟨h3.2.1,ih (listed.setIfInBounds j true) a' w' hfree' (ready_mono hr (Ne.symm hji)) h3.1 ?_⟩) h2
    rw [Array.setIfInBounds_comm _ _ hji]
    exact h3.2.2
theorem Iw {i:Nat} {oi:Oper} {v:Value} {fuel:Nat} {listed:Array Bool} {a:Act} {w:World} (ps:List (List Nat)) (hi:ops[i]?=some oi)
 (hs:Region.noSelect ops=true) (hf:Region.free md ops listed i=true) (hr:(Region.ready md ops listed).contains i=true) (hcl:Yk md ops listed=true) (hps:Qx md ops i E ps=true)
 (hQ:∀ c a w,Q (.panic c) (a.put oi.dst v) w→Q (.panic c) a w) (hy:YieldsIf P ops S oi v a) (hS:S w)
 (h:Cw P md ops Q S E fuel (listed.setIfInBounds i true) (a.put oi.dst v) w):Cw P md ops Q S E (fuel+1) listed a w:=
 V6 hi (Region.noSelect_spec hs) hQ (Xp hps) fuel listed a w (Lf.of hcl) (Region.free_spec hi hf) (by simpa using hr) hy hS h
theorem Gi {i:Nat} {oi:Oper} {v:Value} {fuel:Nat} {listed:Array Bool} {a:Act} {w:World} (hi:ops[i]?=some oi)
 (hs:Region.noSelect ops=true) (hf:Region.free md ops listed i=true) (hr:(Region.ready md ops listed).contains i=true)
 (hQ:∀ c a w,Q (.panic c) (a.put oi.dst v) w→Q (.panic c) a w) (hy:YieldsIf P ops (fun _=> True) oi v a)
 (h:Cw P md ops Q S E fuel (listed.setIfInBounds i true) (a.put oi.dst v) w):Cw P md ops Q S E (fuel+1) listed a w:=
 Vk hi (Region.noSelect_spec hs) hQ fuel listed a w (Region.free_spec hi hf) (by simpa using hr) hy h
theorem Ak {listed:Array Bool} {a:Act} {w:World} (hr:Region.ready md ops listed= []) (h:Q .normal a w):
 ∀ fuel,Cw P md ops Q S E fuel listed a w
 | 0=> ⟨hr,h⟩
 | _+1=> ⟨fun _=> h,by rw [hr];simp⟩
def Ac (P:Program) (md:Region.Mode) (ops:Array Oper) (Q:Exit→Act→World→Prop) (S:World→Prop) (E:List Nat) (fuel:Nat) (listed:Array Bool) (a:Act) (w:World) (rs:List Nat):Prop:=
 ∀ i∈rs,wpOp P ops Q i (fun a' w'=> (E.contains i=false→S w→S w')∧Cw P md ops Q S E fuel (listed.setIfInBounds i true) a' w') a w
theorem Ac.nil {fuel:Nat} {listed:Array Bool} {a:Act} {w:World}:Ac P md ops Q S E fuel listed a w []:=fun _ h=> by cases h
theorem Ac.cons {fuel:Nat} {listed:Array Bool} {a:Act} {w:World} {i:Nat} {o:Oper} {rs:List Nat} (ho:ops[i]?=some o)
 (h:∀ K':Act→World→Prop,Shut (∀ a w,S w→(S w→Cw P md ops Q S E fuel (listed.setIfInBounds i true) a w)→K' a w)→if Region.wanted o (yielded ops a.tmps)=true then Oper.wp P o a w K' Q else K' (a.put o.dst undef) w)
 (hs:Ac P md ops Q S E fuel listed a w rs):Ac P md ops Q S E fuel listed a w (i::rs):=fun j hj=> by
 rcases List.mem_cons.1 hj with rfl | hj
 ·exact wpOp_step ho (fun K' hK=> h K' (fun a w hS hW=> hK a w ⟨fun _ _=> hS,hW hS⟩))
 ·exact hs j hj
theorem Ac.Bb {fuel:Nat} {listed:Array Bool} {a:Act} {w:World} {i:Nat} {o:Oper} {rs:List Nat} (ho:ops[i]?=some o) (hi:E.contains i=true)
 (h:∀ K':Act→World→Prop,Shut (∀ a w,Cw P md ops Q S E fuel (listed.setIfInBounds i true) a w→K' a w)→if Region.wanted o (yielded ops a.tmps)=true then Oper.wp P o a w K' Q else K' (a.put o.dst undef) w)
 (hs:Ac P md ops Q S E fuel listed a w rs):Ac P md ops Q S E fuel listed a w (i::rs):=fun j hj=> by
 rcases List.mem_cons.1 hj with rfl | hj
 ·exact wpOp_step ho (fun K' hK=> h K' (fun a w hW=> hK a w ⟨fun h=> (by rw [hi] at h;cases h),hW⟩))
 ·exact hs j hj
theorem E7 {rs:List Nat} {fuel:Nat} {listed:Array Bool} {a:Act} {w:World} (hr:Region.ready md ops listed=rs) (hne:rs≠ [])
 (h:Ac P md ops Q S E fuel listed a w rs):Cw P md ops Q S E (fuel+1) listed a w:=⟨fun h0=> absurd (hr ▸ h0) hne,hr ▸ h⟩
theorem Al {id:Nat} {a:Act} {w:World} (hm:P.follows .mixedOrders=true) (hS:S w.drew)
 (h:S w.drew→Cw P .any ops Q S E ops.size (Array.replicate ops.size false) a w.drew):(Code.region id ops true).wp P Q a w:=
 wp_region_any hm (Nc _ _ _ _ (h hS))
end
end Go.Proofs.YtbibeionenjmfaaGreatDoor
namespace Go.Proofs.YtbibeionenjmfaaGreatDoor
open Go.RowKit
section
variable {P:Program} {ops:Array Oper} {md:Region.Mode} {Q:Exit→Act→World→Prop} {S:World→Prop} {E:List Nat} {oi:Oper} {v:Value} {fuel:Nat} {listed:Array Bool} {a:Act} {w:World}
def Ana (md:Region.Mode) (ops:Array Oper) (listed:Array Bool) (i:Nat):Bool:=Region.noSelect ops && (Region.free md ops listed i && (Region.ready md ops listed).contains i)
def Aps (md:Region.Mode) (ops:Array Oper) (listed:Array Bool) (i:Nat) (E:List Nat) (ps:List (List Nat)):Bool:=Ana md ops listed i && (Yk md ops listed && Qx md ops i E ps)
theorem hP (i:Nat) (hi:ops[i]?=some oi) (hk:Ana md ops listed i=true) (hw:Region.wanted oi (yielded ops a.tmps)=true) (hy:∀ w,(execOp a.eval oi).run P w= .ok (.value v) w)
 (h:Cw P md ops (NoPanic Q) S E fuel (listed.setIfInBounds i true) (a.put oi.dst v) w):Cw P md ops (NoPanic Q) S E (fuel+1) listed a w:=by
 simp only [Ana,Bool.and_eq_true] at hk
 exact Gi hi hk.1 hk.2.1 hk.2.2 (fun _ _ _ h=> h) (.inl ⟨hw,fun w _=> hy w⟩) h
theorem hT (i:Nat) (ps:List (List Nat)) (hi:ops[i]?=some oi) (hk:Aps md ops listed i E ps=true) (hw:Region.wanted oi (yielded ops a.tmps)=true) (hS:S w) (hy:∀ w,S w→(execOp a.eval oi).run P w= .ok (.value v) w)
 (h:Cw P md ops (NoPanic Q) S E fuel (listed.setIfInBounds i true) (a.put oi.dst v) w):Cw P md ops (NoPanic Q) S E (fuel+1) listed a w:=by
 simp only [Aps,Ana,Bool.and_eq_true] at hk
 exact Iw ps hi hk.1.1 hk.1.2.1 hk.1.2.2 hk.2.1 hk.2.2 (fun _ _ _ h=> h) (.inl ⟨hw,hy⟩) hS h
theorem hR (rs:List Nat) (hr:Region.ready md ops listed=rs) (hne:rs≠ []) (h:Ac P md ops Q S E fuel listed a w rs):Cw P md ops Q S E (fuel+1) listed a w:=E7 hr hne h
end
end Go.Proofs.YtbibeionenjmfaaGreatDoor
