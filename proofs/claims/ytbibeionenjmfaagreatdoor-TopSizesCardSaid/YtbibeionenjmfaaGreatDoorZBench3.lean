/- Package bench: Free, Room, Runs, Size. -/
import Derived.Deep.RegionHeld3
import Derived.Test.YtbibeionenjmfaaGreatDoorZPairSum
import Derived.Test.YtbibeionenjmfaaGreatDoorZOwn
set_option linter.unusedSimpArgs false
set_option linter.unusedVariables false
namespace Go.Proofs.YtbibeionenjmfaaGreatDoor
open Go.RowKit
theorem Ks:(Tryz.prog.info? 202).map (fun i=> (i.zero,i.size,i.bytes))=some (some (.agg #[.string ⟨#[]⟩, .int .i64 0]),2,24):=by kernel_rfl
theorem Aox {α:Type} {l:List α} {i:Nat} {x:α} (h:l[i]?=some x):i < l.length:=(List.getElem?_eq_some_iff.1 h).1
def Aqd (l:List Pr) (k:Nat):Bool:=(List.range k).all fun i=> match l[i]?,l[i+1]? with
 | some a,some b=> !Op.bytesLess b.1.toList a.1.toList
 | _,_=> true
def Aqh (l:List Pr):Bool:=Aqd l l.length
end Go.Proofs.YtbibeionenjmfaaGreatDoor
namespace Go.Proofs.YtbibeionenjmfaaGreatDoor
open Go.RowKit
def Ek (k:Int):Int:=if k < 1∨4 < k then 3 else 0
theorem Vx (k:Int) (w:World):
 Calls Tryz.prog 111 #[.int .i64 k] w fun e w'=> e= .returned (Du (Ek k))∧w=w':=by
 by_cases h1:k < 1
 ·have hr:Ek k=3:=by unfold Ek;rw [if_pos (by omega)]
  rw [hr]
  have e1:decide (k < 1)=true:=by simpa using h1
  go_enter Tryz.func111,Tryz.ntmps111
  go_wp2
  go_ret
  exact⟨rfl,rfl⟩
 ·have e1:decide (k < 1)=false:=by simpa using h1
  by_cases h2:4 < k
  ·have hr:Ek k=3:=by unfold Ek;rw [if_pos (by omega)]
   rw [hr]
   go_enter Tryz.func111,Tryz.ntmps111
   go_wp2
   go_ret
   exact⟨rfl,rfl⟩
  ·have hr:Ek k=0:=by unfold Ek;rw [if_neg (by omega)]
   rw [hr]
   go_enter Tryz.func111,Tryz.ntmps111
   go_wp2
   go_ret
   exact⟨rfl,rfl⟩
def first (k v:Int):Int:=if k=4 then 1 else v
theorem Qc (k v:Int) (w:World):
 Calls Tryz.prog 184 #[.int .i64 k, .int .i64 v] w fun e w'=> e= .returned (.int .i64 (first k v))∧w=w':=by
 by_cases h:k=4
 ·have hr:first k v=1:=if_pos h
  have e1:(k ==4)=true:=by simpa using h
  rw [hr]
  clear hr h
  go_enter Tryz.func184,Tryz.ntmps184
  go_wp2
  go_ret
  exact⟨rfl,rfl⟩
 ·have hr:first k v=v:=if_neg h
  have e1:(k ==4)=false:=by simpa using h
  rw [hr]
  clear hr h
  go_enter Tryz.func184,Tryz.ntmps184
  go_wp2
  go_ret
  exact⟨rfl,rfl⟩
def two (k a b:Int):Int:=if k=2 then min a b else if k=3 then max a b else wrap64 (a+b)
theorem Af3 (k a b:Int) (w:World):
 Calls Tryz.prog 117 #[.int .i64 k, .int .i64 a, .int .i64 b] w fun e w'=> e= .returned (.int .i64 (two k a b))∧w=w':=by
 by_cases h:k=2
 ·have hr:two k a b=min a b:=if_pos h
  have e1:(k ==2)=true:=by simpa using h
  rw [hr]
  clear hr h
  go_enter Tryz.func117,Tryz.ntmps117
  go_wp2
  all_goals (go_ret;exact⟨Se (by omega),rfl⟩)
 ·by_cases h3:k=3
  ·have hr:two k a b=max a b:=by unfold two;rw [if_neg h,if_pos h3]
   have e1:(k ==2)=false:=by simpa using h
   have e2:(k ==3)=true:=by simpa using h3
   rw [hr]
   clear hr h h3
   go_enter Tryz.func117,Tryz.ntmps117
   go_wp2
   all_goals (go_ret;exact⟨Se (by omega),rfl⟩)
  ·have hr:two k a b=wrap64 (a+b):=by unfold two;rw [if_neg h,if_neg h3]
   have e1:(k ==2)=false:=by simpa using h
   have e2:(k ==3)=false:=by simpa using h3
   rw [hr]
   clear hr h h3
   go_enter Tryz.func117,Tryz.ntmps117
   go_wp2
   go_ret
   exact⟨rfl,rfl⟩
def Cn (k:Int) (out:List Pr) (p:Pr):List Pr:=match out.getLast? with
 | some q=> if q.1=p.1 then out.dropLast++ [(q.1,two k q.2 p.2)] else out++ [p]
 | none=> [p]
def Ae (k:Int) (l:List Pr):List Pr:=l.foldl (Cn k) []
theorem Hn {k:Int} {l:List Pr} {i:Nat} {p:Pr} (h:l[i]?=some p):Ae k (l.take (i+1))=Cn k (Ae k (l.take i)) p:=by
 have hlt:i < l.length:=Aox h
 have hx:l[i]=p:=(List.getElem?_eq_some_iff.1 h).2
 unfold Ae
 rw [List.take_succ_eq_append_getElem hlt,List.foldl_append,hx];rfl
theorem Yp (k:Int) (out:List Pr) (p:Pr):(Cn k out p).length≤out.length+1:=by
 unfold Cn
 split
 ·rename_i q hq
  split
  ·simp
  ·simp
 ·simp
theorem D6 (k:Int) (l:List Pr):(Ae k l).length≤l.length:=by
 have key:∀ (l:List Pr) (o:List Pr),(l.foldl (Cn k) o).length≤o.length+l.length:=by
  intro l
  induction l with
  | nil=> intro o;simp
  | cons a l ih=> intro o;have h1:=ih (Cn k o a);have h2:=Yp k o a;simp only [List.foldl_cons,List.length_cons];omega
 have:=key l []
 simpa [Ae] using this
set_option maxRecDepth 100000 in
set_option maxHeartbeats 1000000 in
theorem Acv (k:Int) (ao:Option Addr) (cap:Nat) (l:List Pr) (w:World) (hl:l.length≤1000000000) (hs:Sl 2 Bt w ao l):
 Calls Tryz.prog 122 #[.int .i64 k, .slice ao l.length cap] w fun e w'=> ∃ v,e= .returned v∧Own 2 Bt 202 w' w.heap.size v (Ae k l)∧Below w.heap.size w w':=by
 obtain⟨i0,hi,hz0,hz1,hz2⟩:=info_parts Ks
 go_enter Tryz.func122,Tryz.ntmps122
 go_wp2
 go_loopw [5,11] (fun v i wr=> ∃ n:Nat,n≤l.length∧i= .int .i64 n∧Own 2 Bt 202 wr w.heap.size v (Ae k (l.take n))∧Below w.heap.size w wr) (fun _ i _=> l.length - (intOf i).toNat)
 case atStart=> exact⟨0,by omega,rfl,Own.nil,Below.refl _ _⟩
 case round=>
  obtain⟨n,hn,rfl,hown,hnx⟩:=hrel
  by_cases hlt:n < l.length
  ·obtain⟨b,off,x,y,rfl,hbw,hlk,c0,c1⟩:=(hs.later hnx (Nat.le_refl _)).pair hlt
   have Hst:Hid (Ae k (l.take (n+1))=Cn k (Ae k (l.take n)) (x,y)):=Hn hlk
   have hgl:(Ae k (l.take n)).length≤n:=by have:=D6 k (l.take n);rw [List.length_take] at this;omega
   clear hlk
   generalize Ae k (l.take n)=out at *
   by_cases h0:out.length=0
   ·obtain rfl:out= []:=List.eq_nil_of_length_eq_zero h0
    obtain⟨⟨ao',cp,rfl⟩,hrow⟩:=hown
    have hown:Own 2 Bt 202 wr w.heap.size (.slice ao' ([]:List Pr).length cp) ([]:List Pr):=⟨⟨ao',cp,rfl⟩,hrow⟩
    clear hrow
    go_wp2
    go_quiet (fail)
    go_wp2_with (at_builtin;refine Bi Bn _ _ 157 i0 _ rfl rfl Tryz.underlying157 hi hz0 hz1 hz2 rfl (by decide) (by decide) ((hown.alloc _).alloc _) (below_drewN (hnx.alloc hnx.size _) _ |>.alloc ?c0 _) ?c1 ?c2 rfl (x,y) ⟨wr.heap.size+1,0,none⟩ 1 rfl (Fc ?c3 rfl) ?c4 ?_)
    case c0=> have:=hnx.size;simp;omega
    case c1=> have:=hnx.size;simp;omega
    case c2=> simp
    case c3=> simp
    case c4=> simp [Bt,Value.oneCell']
    intro v' w1 hown1 hb1 _ _
    go_wp2
    go_roundw
    case rel=> exact⟨n+1,by omega,by go_num,by rw [Hst.out];exact hown1,hb1⟩
    case measure=> simp [intOf];omega
   ·obtain⟨g,cp,rfl,hgb,hgw,hgc,hgf⟩:=hown.addr (by omega)
    obtain⟨m,hm⟩:∃ m,out.length=m+1:=⟨out.length - 1,by omega⟩
    obtain⟨⟨qk,qv⟩,hq⟩:∃ q:Pr,out[m]?=some q:=⟨out[m],by simp [hm]⟩
    have hsl:=(hown.sl Bn).pair (show m < out.length by omega)
    obtain⟨_,_,_,_,e1,_,e2,d0,d1⟩:=hsl
    cases e1
    rw [hq] at e2;cases e2
    simp only [Nat.zero_add] at d0 d1
    have hgl2:out.getLast?=some (qk,qv):=by rw [List.getLast?_eq_getElem?,hm];exact hq
    have dl:out.dropLast++ [(qk,two k qv y)]=out.set m (qk,two k qv y):=by
     rw [List.dropLast_eq_take,hm,List.set_eq_take_append_cons_drop,if_pos (by omega),List.drop_eq_nil_of_le (by omega)]
     simp
    have hown2:Own 2 Bt 202 wr w.heap.size (.slice (some ⟨g,0,none⟩) (m+1) cp) out:=by rw [←hm];exact hown
    rw [hm]
    have f1:(0:Int)≤(m:Int)∧(m:Int) < (m:Int)+1∧(m:Int)≤1000000000:=by omega
    obtain⟨f1,f2,f3⟩:=f1
    have fz:=hgf (m * 2+1)
    have Hm:=Aa hm;clear hm
    by_cases hk:qk=x
    ·subst hk
     have hgs:Hid (Cn k out (qk,y)=out.set m (qk,two k qv y)):=by
      show _=_
      unfold Cn;rw [hgl2];simp [dl]
     clear dl hgl2
     go_wp2
     go_quiet (fail)
     go_wp2
     refine Bm 13 (by kernel_rfl) (by kernel_rfl) ?_
     simp only [List.take_succ_cons,List.take_zero,List.drop_succ_cons,List.drop_zero]
     repeat still_step
     still_call ((Af3 _ _ _ _).mono fun e w'' h=> ⟨h.1,h.2.symm⟩)
     repeat still_step
     refine wpStill_nil ?_
     go_wp2
     go_roundw
     case rel=>
      refine⟨n+1,by omega,by go_num,?_,(below_drewN (hnx.alloc hnx.size _) _).setCell hgb _⟩
      rw [Hst.out,hgs.out,←Hm.out]
      exact Own.set (x:=(qk,qv)) Bn ((hown.alloc _).drewN _) hq (by decide) rfl
     case measure=> simp [intOf];omega
    ·have hgs:Hid (Cn k out (x,y)=out++ [(x,y)]):=by
      show _=_
      unfold Cn;rw [hgl2];simp [hk]
     clear dl hgl2
     have hkk:=Ag3 hk
     go_wp2
     go_quiet (fail)
     go_wp2_with (at_builtin;refine Bi Bn _ _ 157 i0 _ rfl rfl Tryz.underlying157 hi hz0 hz1 hz2 rfl (by decide) (by decide) ((hown2.alloc _).alloc _) (below_drewN (hnx.alloc hnx.size _) _ |>.alloc ?c0 _) ?c1 ?c2 rfl (x,y) ⟨wr.heap.size+1,0,none⟩ 1 rfl (Fc ?c3 rfl) ?c4 ?_)
     case c0=> have:=hnx.size;simp;omega
     case c1=> have:=hnx.size;simp;omega
     case c2=> omega
     case c3=> simp
     case c4=> simp [Bt,Value.oneCell']
     intro v' w1 hown1 hb1 _ _
     go_wp2
     go_roundw
     case rel=> exact⟨n+1,by omega,by go_num,by rw [Hst.out,hgs.out];exact hown1,hb1⟩
     case measure=> simp [intOf];omega
  ·go_wp2
   go_ret
   rw [List.take_of_length_le (by omega)] at hown
   exact⟨_,rfl,hown,hnx⟩
end Go.Proofs.YtbibeionenjmfaaGreatDoor
namespace Go.Proofs.YtbibeionenjmfaaGreatDoor
open Go.RowKit
theorem Yd (n:Int):∃ q:Int,wrap64 n=n - q * 18446744073709551616:=by
 refine⟨(n+9223372036854775808) / 18446744073709551616,?_⟩
 unfold wrap64
 omega
theorem Aiz {m n q:Int} (h:m=n - q * 18446744073709551616):wrap64 m=wrap64 n:=by
 unfold wrap64
 omega
theorem Vg (k a b:Int):two k a b=two k b a:=by
 unfold two
 rw [Int.add_comm a b,Int.min_comm,Int.max_comm]
theorem Re (k a b c:Int):two k a (two k b c)=two k (two k a b) c:=by
 unfold two
 by_cases h:k=2
 ·simp only [h,if_true];omega
 ·by_cases h3:k=3
  ·simp only [h,h3,if_true,if_false];omega
  ·simp only [h,h3,if_false]
   obtain⟨q1,e1⟩:=Yd (b+c)
   obtain⟨q2,e2⟩:=Yd (a+b)
   rw [e1,e2]
   refine Aiz (q:=q1 - q2) ?_
   omega
theorem Ei (k:Int) (p:Pr):Cn k [] p= [p]:=rfl
theorem Cg {k:Int} {S:List Pr} {q p:Pr} (h:q.1=p.1):Cn k (S++ [q]) p=S++ [(q.1,two k q.2 p.2)]:=by
 unfold Cn
 rw [List.getLast?_concat]
 simp [h]
theorem Cp {k:Int} {S:List Pr} {q p:Pr} (h:q.1≠p.1):Cn k (S++ [q]) p=S++ [q]++ [p]:=by
 unfold Cn
 rw [List.getLast?_concat]
 simp [h]
theorem Gf {α:Type} (l:List α):l= []∨∃ S q,l=S++ [q]:=by
 rcases List.eq_nil_or_concat l with h | ⟨S,q,h⟩
 ·exact .inl h
 ·exact .inr ⟨S,q,by simpa using h⟩
theorem Fk (k:Int) (l:List Pr) (p:Pr):Ae k (l++ [p])=Cn k (Ae k l) p:=by unfold Ae;rw [List.foldl_append];rfl
theorem Ahh (k:Int) (S:List Pr) {q p:Pr} (h:q.1=p.1):Cn k (Cn k S q) p=Cn k S (q.1,two k q.2 p.2):=by
 rcases Gf S with rfl | ⟨S,r,rfl⟩
 ·rw [Ei,Ei]
  exact Cg (S:= []) h
 ·by_cases e:r.1=q.1
  ·rw [Cg e,Cg (q:=(r.1,two k r.2 q.2)) (e.trans h),Cg (p:=(q.1,two k q.2 p.2)) e]
   simp only [Re]
  ·rw [Cp e,Cp (p:=(q.1,two k q.2 p.2)) e,Cg h]
theorem Mx {α:Type} {P:List α→Prop} (h0:P []) (hs:∀ l x,P l→P (l++ [x])) (l:List α):P l:=by
 rw [←List.reverse_reverse l]
 induction l.reverse with
 | nil=> exact h0
 | cons a t ih=> rw [List.reverse_cons];exact hs _ _ ih
theorem Ju (k:Int) (o B:List Pr):(Ae k B).foldl (Cn k) o=B.foldl (Cn k) o:=by
 induction B using Mx with
 | h0=> rfl
 | hs B p ih=>
   rw [Fk,List.foldl_append]
   rcases Gf (Ae k B) with e | ⟨G,q,e⟩
   ·rw [e] at ih
    rw [e,Ei,←ih];rfl
   ·rw [e] at ih
    rw [List.foldl_append] at ih
    rw [e,←ih]
    by_cases h:q.1=p.1
    ·rw [Cg h,List.foldl_append]
     exact(Ahh k _ h).symm
    ·rw [Cp h,List.foldl_append,List.foldl_append]
theorem Nz (k:Int) (l:List Pr):Ae k (Ae k l)=Ae k l:=Ju k [] l
theorem Yn (k:Int) (A B:List Pr):Ae k (Ae k A++Ae k B)=Ae k (A++B):=by
 show(Ae k A++Ae k B).foldl (Cn k) []=(A++B).foldl (Cn k) []
 rw [List.foldl_append,List.foldl_append,Ju k [] A,Ju]
end Go.Proofs.YtbibeionenjmfaaGreatDoor
namespace Go.Proofs.YtbibeionenjmfaaGreatDoor
open Go.RowKit
theorem F5 {a b c d:Pr} (h1:a.1=c.1) (h2:b.1=d.1):Cq a b=Cq c d:=by unfold Cq;rw [h1,h2]
theorem Ah0 {k:Int} {out:List Pr} {p q:Pr} (h:q∈Cn k out p):(∃ x∈out,q.1=x.1)∨q.1=p.1:=by
 rcases Gf out with rfl | ⟨S,r,rfl⟩
 ·rw [Ei] at h
  right;rw [List.mem_singleton.1 h]
 ·by_cases e:r.1=p.1
  ·rw [Cg e] at h
   rcases List.mem_append.1 h with h | h
   ·exact .inl ⟨q,List.mem_append_left _ h,rfl⟩
   ·exact .inl ⟨r,by simp,by rw [List.mem_singleton.1 h]⟩
  ·rw [Cp e] at h
   rcases List.mem_append.1 h with h | h
   ·exact .inl ⟨q,h,rfl⟩
   ·right;rw [List.mem_singleton.1 h]
theorem Wu (k:Int):∀ (l:List Pr),∀ q∈Ae k l,∃ p∈l,q.1=p.1:=by
 intro l
 induction l using Mx with
 | h0=> intro q h;simp [Ae] at h
 | hs l p ih=>
   intro q h
   rw [Fk] at h
   rcases Ah0 h with ⟨x,hx,e⟩ | e
   ·obtain⟨y,hy,e2⟩:=ih x hx
    exact⟨y,List.mem_append_left _ hy,e.trans e2⟩
   ·exact⟨p,by simp,e⟩
theorem Aap (k:Int):∀ (l:List Pr),Bl l→(Ae k l).Pairwise fun a b=> Cq a b=true:=by
 intro l
 induction l using Mx with
 | h0=> intro _;simp [Ae]
 | hs l p ih=>
   intro h
   obtain⟨h1,_,h2⟩:=Bl.append.1 h
   have h3:=ih h1
   have h4:=Wu k l
   rw [Fk]
   rcases Gf (Ae k l) with e | ⟨S,q,e⟩
   ·rw [e,Ei];simp
   ·rw [e] at h3 h4 ⊢
    obtain⟨p1,_,p3⟩:=List.pairwise_append.1 h3
    by_cases he:q.1=p.1
    ·rw [Cg he]
     refine List.pairwise_append.2 ⟨p1,by simp,fun a ha b hb=> ?_⟩
     obtain rfl:=List.mem_singleton.1 hb
     rw [F5 (a:=a) (b:=(q.1,two k q.2 p.2)) (c:=a) (d:=q) rfl rfl]
     exact p3 a ha q (by simp)
    ·rw [Cp he]
     have hq:Cq q p=true:=by
      obtain⟨y,hy,ey⟩:=h4 q (by simp)
      have h5:=h2 y hy p (by simp)
      rw [←F5 (a:=p) (b:=q) rfl ey] at h5
      rcases To q.1.toList p.1.toList with h6 | h6 | h6
      ·exact h6
      ·exact absurd (Dc h6) he
      ·unfold Cq at h5;rw [h6] at h5;cases h5
     refine List.pairwise_append.2 ⟨h3,by simp,fun a ha b hb=> ?_⟩
     obtain rfl:=List.mem_singleton.1 hb
     rcases List.mem_append.1 ha with ha | ha
     ·exact Gs (p3 a ha q (by simp)) hq
     ·rw [List.mem_singleton.1 ha];exact hq
end Go.Proofs.YtbibeionenjmfaaGreatDoor
namespace Go.Proofs.YtbibeionenjmfaaGreatDoor
open Go.RowKit
def P7 (k:Int) (l:List Pr):List Pr:=Ae k (Dz l)
def Hd (k:Int) (x:Pr):List Pr→List Pr
 | []=> [x]
 | a::l=> if Cq a x=true then a::Hd k x l else if a.1=x.1 then(a.1,two k a.2 x.2)::l else x::a::l
def O5 (l:List Pr):Prop:=l.Pairwise fun a b=> Cq a b=true
theorem O5.tail {a:Pr} {l:List Pr} (h:O5 (a::l)):O5 l:=(List.pairwise_cons.1 h).2
theorem O5.head {a:Pr} {l:List Pr} (h:O5 (a::l)):∀ b∈l,Cq a b=true:=(List.pairwise_cons.1 h).1
theorem Aa5 {a b:Pr} (h:a.1=b.1):Cq a b=false:=by unfold Cq;rw [h];exact Ix _
theorem Mq {a b:Pr}:Cq a b=true∨a.1=b.1∨Cq b a=true:=by
 rcases To a.1.toList b.1.toList with h | h | h
 ·exact .inl h
 ·exact .inr (.inl (Dc h))
 ·exact .inr (.inr h)
theorem Fl (k:Int) (x:Pr):Hd k x []= [x]:=by unfold Hd;rfl
theorem Ca {k:Int} {x a:Pr} {l:List Pr} (h:Cq a x=true):Hd k x (a::l)=a::Hd k x l:=by conv=> lhs;unfold Hd;rw [if_pos h]
theorem C0 {k:Int} {x a:Pr} {l:List Pr} (h:a.1=x.1):Hd k x (a::l)=(a.1,two k a.2 x.2)::l:=by
 conv=> lhs;unfold Hd;rw [if_neg (by rw [Aa5 h];decide),if_pos h]
theorem Ck {k:Int} {x a:Pr} {l:List Pr} (h:Cq x a=true):Hd k x (a::l)=x::a::l:=by
 conv=> lhs;unfold Hd;rw [if_neg (by rw [Hs h];decide),if_neg (fun e=> by rw [Aa5 e.symm] at h;cases h)]
theorem Abe {k:Int} {x y:Pr}:∀ {l:List Pr},y∈Hd k x l→y.1=x.1∨∃ z∈l,y.1=z.1
 | [],h=> by rw [Fl] at h;left;rw [List.mem_singleton.1 h]
 | a::l,h=> by
   rcases Mq (a:=a) (b:=x) with e | e | e
   ·rw [Ca e] at h
    rcases List.mem_cons.1 h with h | h
    ·exact .inr ⟨a,List.mem_cons_self,by rw [h]⟩
    ·rcases Abe h with h | ⟨z,hz,h⟩
     ·exact .inl h
     ·exact .inr ⟨z,List.mem_cons_of_mem _ hz,h⟩
   ·rw [C0 e] at h
    rcases List.mem_cons.1 h with h | h
    ·exact .inr ⟨a,List.mem_cons_self,by rw [h]⟩
    ·exact .inr ⟨y,List.mem_cons_of_mem _ h,rfl⟩
   ·rw [Ck e] at h
    rcases List.mem_cons.1 h with h | h
    ·exact .inl (by rw [h])
    ·exact .inr ⟨y,h,rfl⟩
theorem Qs {k:Int} {x:Pr}:∀ {l:List Pr},O5 l→O5 (Hd k x l)
 | [],_=> by rw [Fl];exact List.pairwise_singleton _ _
 | a::l,h=> by
   rcases Mq (a:=a) (b:=x) with e | e | e
   ·rw [Ca e]
    refine List.pairwise_cons.2 ⟨fun b hb=> ?_,Qs h.tail⟩
    rcases Abe hb with h1 | ⟨z,hz,h1⟩
    ·rw [F5 (a:=a) (b:=b) (c:=a) (d:=x) rfl h1];exact e
    ·rw [F5 (a:=a) (b:=b) (c:=a) (d:=z) rfl h1];exact h.head z hz
   ·rw [C0 e]
    refine List.pairwise_cons.2 ⟨fun b hb=> ?_,h.tail⟩
    rw [F5 (a:=(a.1,two k a.2 x.2)) (b:=b) (c:=a) (d:=b) rfl rfl]
    exact h.head b hb
   ·rw [Ck e]
    refine List.pairwise_cons.2 ⟨fun b hb=> ?_,h⟩
    rcases List.mem_cons.1 hb with h1 | h1
    ·rw [h1];exact e
    ·exact Gs e (h.head b h1)
theorem Wy (k:Int) (x y:Pr):∀ (l:List Pr),Hd k x (Hd k y l)=Hd k y (Hd k x l)
 | []=> by
   rw [Fl,Fl]
   rcases Mq (a:=x) (b:=y) with e | e | e
   ·rw [Ck e,Ca e,Fl]
   ·rw [C0 e.symm,C0 e,Vg,e]
   ·rw [Ca e,Ck e,Fl]
 | a::l=> by
   have ih:=Wy k x y l
   rcases Mq (a:=a) (b:=x) with ex | ex | ex <;> rcases Mq (a:=a) (b:=y) with ey | ey | ey
   ·rw [Ca ey,Ca ex,Ca ex,Ca ey,ih]
   ·rw [C0 ey,Ca ex,C0 ey]
    rw [Ca (a:=(a.1,two k a.2 y.2)) (by rw [F5 (a:=(a.1,two k a.2 y.2)) (b:=x) (c:=a) (d:=x) rfl rfl];exact ex)]
   ·rw [Ck ey,Ca ex,Ck ey]
    have hyx:Cq y x=true:=Gs ey ex
    rw [Ca hyx,Ca ex]
   ·rw [Ca ey,C0 ex,C0 ex]
    rw [Ca (a:=(a.1,two k a.2 x.2)) (by rw [F5 (a:=(a.1,two k a.2 x.2)) (b:=y) (c:=a) (d:=y) rfl rfl];exact ey)]
   ·rw [C0 ey,C0 ex,C0 (a:=(a.1,two k a.2 y.2)) ex,C0 (a:=(a.1,two k a.2 x.2)) ey]
    dsimp only
    rw [←Re,←Re,Vg k y.2 x.2]
   ·have hyx:Cq y x=true:=by rw [F5 (a:=y) (b:=x) (c:=y) (d:=a) rfl ex.symm];exact ey
    rw [Ck ey,C0 ex,Ca hyx,C0 ex]
    rw [Ck (a:=(a.1,two k a.2 x.2)) (by rw [F5 (a:=y) (b:=(a.1,two k a.2 x.2)) (c:=y) (d:=a) rfl rfl];exact ey)]
   ·have hxy:Cq x y=true:=Gs ex ey
    rw [Ca ey,Ck ex,Ck ex,Ca hxy,Ca ey]
   ·have hxy:Cq x y=true:=by rw [F5 (a:=x) (b:=y) (c:=x) (d:=a) rfl ey.symm];exact ex
    rw [C0 ey,Ck ex,Ca hxy,C0 ey]
    rw [Ck (a:=(a.1,two k a.2 y.2)) (by rw [F5 (a:=x) (b:=(a.1,two k a.2 y.2)) (c:=x) (d:=a) rfl rfl];exact ex)]
   ·rcases Mq (a:=x) (b:=y) with e | e | e
    ·rw [Ck ey,Ck ex,Ck e,Ca e,Ck ey]
    ·rw [Ck ey,Ck ex,C0 e.symm,C0 e,Vg,e]
    ·rw [Ck ey,Ck ex,Ca e,Ck ex,Ck e]
def Ow (k:Int) (o l:List Pr):List Pr:=l.foldl (fun s x=> Hd k x s) o
theorem X2 {k:Int} {l m:List Pr} (h:l.Perm m):∀ o,Ow k o l=Ow k o m:=by
 induction h with
 | nil=> intro o;rfl
 | cons x _ ih=> intro o;exact ih _
 | swap x y l=>
   intro o
   show Ow k (Hd k x (Hd k y o)) l=Ow k (Hd k y (Hd k x o)) l
   rw [Wy]
 | trans _ _ ih1 ih2=> intro o;rw [ih1,ih2]
theorem M5 (k:Int) (o a b:List Pr):Ow k o (a++b)=Ow k (Ow k o a) b:=List.foldl_append ..
theorem X0 {k:Int}:∀ (l o:List Pr),O5 o→O5 (Ow k o l)
 | [],_,h=> h
 | x::l,_,h=> X0 l _ (Qs h)
theorem T9 {k:Int} {x:Pr}:∀ {l:List Pr},(∀ a∈l,Cq a x=true)→Hd k x l=l++ [x]
 | [],_=> by rw [Fl];rfl
 | a::l,h=> by rw [Ca (h a List.mem_cons_self),T9 fun b hb=> h b (List.mem_cons_of_mem _ hb)];rfl
theorem X3 {k:Int}:∀ (l o:List Pr),O5 (o++l)→Ow k o l=o++l
 | [],o,_=> by rw [List.append_nil];rfl
 | x::l,o,h=> by
   have h1:=(List.pairwise_append.1 h).2.2
   show Ow k (Hd k x o) l=_
   rw [T9 fun a ha=> h1 a ha x List.mem_cons_self,X3 l (o++ [x]) (by rw [List.append_assoc];exact h),List.append_assoc]
   rfl
theorem Adk {k:Int} {x:Pr} {o:List Pr} (h:O5 o) (hx:∀ a∈o,Cq x a=false):Cn k o x=Hd k x o:=by
 rcases Gf o with rfl | ⟨S,q,rfl⟩
 ·rw [Ei,Fl]
 ·have hS:∀ a∈S,Cq a q=true:=fun a ha=> (List.pairwise_append.1 h).2.2 a ha q (List.mem_singleton.2 rfl)
  have hq:=hx q (by simp)
  by_cases e:q.1=x.1
  ·rw [Cg e]
   have key:∀ (S:List Pr),(∀ a∈S,Cq a q=true)→Hd k x (S++ [q])=S++ [(q.1,two k q.2 x.2)]:=by
    intro S
    induction S with
    | nil=> intro _;exact C0 e
    | cons a S ih=>
      intro hS
      have ha:Cq a x=true:=by rw [F5 (a:=a) (b:=x) (c:=a) (d:=q) rfl e.symm];exact hS a List.mem_cons_self
      rw [List.cons_append,Ca ha,ih fun b hb=> hS b (List.mem_cons_of_mem _ hb)]
      rfl
   rw [key S hS]
  ·rw [Cp e]
   have hqx:Cq q x=true:=by
    rcases Mq (a:=q) (b:=x) with h1 | h1 | h1
    ·exact h1
    ·exact absurd h1 e
    ·rw [h1] at hq;cases hq
   rw [T9]
   intro a ha
   rcases List.mem_append.1 ha with ha | ha
   ·exact Gs (hS a ha) hqx
   ·rw [List.mem_singleton.1 ha];exact hqx
theorem Aar (k:Int):∀ (l:List Pr),Bl l→Ae k l=Ow k [] l:=by
 intro l
 induction l using Mx with
 | h0=> intro _;rfl
 | hs l p ih=>
   intro h
   obtain⟨h1,_,h2⟩:=Bl.append.1 h
   rw [Fk,M5,←ih h1]
   refine Adk (Aap k l h1) fun a ha=> ?_
   obtain⟨y,hy,e⟩:=Wu k l a ha
   rw [F5 (a:=p) (b:=a) (c:=p) (d:=y) rfl e]
   exact h2 y hy p (by simp)
theorem Mk (k:Int) (l:List Pr):P7 k l=Ow k [] l:=by
 unfold P7
 rw [Aar k _ (Ft l)]
 exact X2 (M1 l) []
theorem T7 {k:Int} {l m:List Pr} (h:l.Perm m):P7 k l=P7 k m:=by rw [Mk,Mk];exact X2 h []
theorem Aau (k:Int) (l:List Pr):O5 (P7 k l):=by rw [Mk];exact X0 l [] List.Pairwise.nil
theorem T6 (k:Int) (a b:List Pr):P7 k (P7 k a++b)=P7 k (a++b):=by
 rw [Mk,Mk k (a++b),M5,M5,X3 (P7 k a) [] (Aau k a),Mk k a]
 rfl
theorem Wv (k:Int) (a b:List Pr):P7 k (P7 k a++P7 k b)=P7 k (a++b):=by
 rw [T6,T7 List.perm_append_comm,T6,T7 List.perm_append_comm]
end Go.Proofs.YtbibeionenjmfaaGreatDoor
namespace Go.Proofs.YtbibeionenjmfaaGreatDoor
open Go.RowKit
theorem Amn:(Tryz.prog.info? 3).map (fun i=> (i.zero,i.size,i.bytes))=some (some (.int .i64 0),1,8):=by kernel_rfl
theorem D5 (x:Int):(Fj x).length=1:=rfl
end Go.Proofs.YtbibeionenjmfaaGreatDoor
namespace Go.Proofs.YtbibeionenjmfaaGreatDoor
open Go.RowKit
abbrev A0:=Bool×Int×Bool×Int
def Ny (s:A0):List Value:= [.bool s.1, .int .i64 s.2.1, .bool s.2.2.1, .int .i64 s.2.2.2]
theorem Eg (s:A0):(Ny s).length=4:=rfl
def Aad (n:Nat) (r:Nat):List Value:= [.slice (some ⟨r,0,none⟩) n n]
theorem Aae (n:Nat) (r:Nat):(Aad n r).length=1:=rfl
structure BT (w:World) (base bb lb cap n:Nat) (rs:List Nat) (T:List (List A0)):Prop where
 c0:w.cell? ⟨bb,0,none⟩=some (.slice (some ⟨lb,0,none⟩) rs.length cap)
 ol:Own 1 (Aad n) 151 w base (.slice (some ⟨lb,0,none⟩) rs.length cap) rs
 ow:∀ (i:Nat) r row,rs[i]?=some r→T[i]?=some row→Own 4 Ny 153 w base (.slice (some ⟨r,0,none⟩) n n) row
 lt:T.length=rs.length
 bt:base≤bb
 d1:bb≠lb
 d2:∀ (i:Nat) r,rs[i]?=some r→r≠bb∧r≠lb
 d3:∀ (i j:Nat) r,rs[i]?=some r→rs[j]?=some r→i=j
 lr:rs.length≤4
 ln:n≤3
 l1:1≤rs.length
 l2:1≤n
theorem BT.kept {S:Nat→Prop} {w w':World} {base bb lb cap n:Nat} {rs:List Nat} {T:List (List A0)} (h:BT w base bb lb cap n rs T) (k:Ab S w w') (h1:¬ S bb) (h2:¬ S lb) (h3:∀ (i:Nat) r,rs[i]?=some r→¬ S r):BT w' base bb lb cap n rs T:=
 ⟨k.cell h.c0 h1,k.own h.ol (fun _ e=> by cases e;exact h2),fun i r row hr ht=> k.own (h.ow i r row hr ht) (fun _ e=> by cases e;exact h3 i r hr),h.lt,h.bt,h.d1,h.d2,h.d3,h.lr,h.ln,h.l1,h.l2⟩
theorem BT.below {w w':World} {base bb lb cap n:Nat} {rs:List Nat} {T:List (List A0)} (h:BT w base bb lb cap n rs T) (k:Below w.heap.size w w'):BT w' base bb lb cap n rs T:=
 h.kept (S:=fun _=> False) (Ab.Ai k (Nat.le_refl _)) id id (fun _ _ _=> id)
theorem BT.row {w:World} {base bb lb cap n:Nat} {rs:List Nat} {T:List (List A0)} (h:BT w base bb lb cap n rs T) {i:Nat} (hi:i < rs.length):
 ∃ r row,rs[i]?=some r∧T[i]?=some row∧row.length=n∧w.cell? ⟨lb,i,none⟩=some (.slice (some ⟨r,0,none⟩) n n)∧Own 4 Ny 153 w base (.slice (some ⟨r,0,none⟩) n n) row:=by
 have hi':i < T.length:=by rw [h.lt];exact hi
 refine⟨rs[i],T[i],by simp [hi],by simp [hi'],?_,?_,?_⟩
 ·exact(h.ow i rs[i] T[i] (by simp [hi]) (by simp [hi'])).len.symm
 ·have:=h.ol.cellAt (i:=i) (j:=0) (x:=rs[i]) (Aae n) (by simp [hi]) rfl
  simpa using this
 ·exact h.ow i rs[i] T[i] (by simp [hi]) (by simp [hi'])
def place (a b:Int):Value:= .agg #[.int .i64 a, .int .i64 b]
theorem ba (w:World) (o:Obj):Below w.heap.size w (w.alloc o):=(Below.refl _ _).alloc (Nat.le_refl _) _
theorem bq (w:World) (o:Obj) (nq:Nat):Below w.heap.size w ((w.alloc o).drewN nq):=below_drewN ((Below.refl _ _).alloc (Nat.le_refl _) _) _
set_option maxHeartbeats 1000000 in
theorem Aok (a b:Int) {w:World} {base bb lb cap n:Nat} {rs:List Nat} {T:List (List A0)} (h:BT w base bb lb cap n rs T) (hi:¬ (0≤a∧a < rs.length∧0≤b∧b < n)):
 Calls Tryz.prog 79 #[.pointer (some ⟨bb,0,none⟩), .agg #[.int .i64 a, .int .i64 b]] w fun e w'=> e= .returned (.pointer none)∧Below w.heap.size w w':=by
 have c0:=h.c0
 have hlr:=h.lr
 have hln:=h.ln
 by_cases h0:a < 0
 ·have e1:decide (a < 0)=true:=by simpa using h0
  clear h hi
  go_enter Tryz.func79,Tryz.ntmps79
  go_wp2
  go_quiet (fail)
  go_wp2
  go_ret
  exact⟨rfl,bq _ _ _⟩
 ·have e1:decide (a < 0)=false:=by simpa using h0
  obtain⟨i,rfl⟩:∃ i:Nat,a=i:=⟨a.toNat,by omega⟩
  by_cases h1:rs.length≤i
  ·have e2:decide (rs.length≤i)=true:=by simpa using h1
   have c0':=cell_later (ba w (.cells #[.int .i64 i, .int .i64 b] 60)) c0
   clear h hi
   go_enter Tryz.func79,Tryz.ntmps79
   go_wp2
   go_quiet (fail)
   go_wp2
   go_ret
   exact⟨rfl,bq _ _ _⟩
  ·have e2:decide (rs.length≤i)=false:=by simpa using h1
   by_cases h2:b < 0
   ·have e3:decide (b < 0)=true:=by simpa using h2
    have c0':=cell_later (ba w (.cells #[.int .i64 i, .int .i64 b] 60)) c0
    clear h hi
    go_enter Tryz.func79,Tryz.ntmps79
    go_wp2
    go_quiet (fail)
    go_wp2
    go_ret
    exact⟨rfl,bq _ _ _⟩
   ·have e3:decide (b < 0)=false:=by simpa using h2
    obtain⟨j,rfl⟩:∃ j:Nat,b=j:=⟨b.toNat,by omega⟩
    have e4:decide (n≤j)=true:=by simp;omega
    obtain⟨r,row,_,_,_,c1,_⟩:=h.row (i:=i) (by omega)
    have hlt:i < rs.length:=by omega
    have c0':=cell_later (ba w (.cells #[.int .i64 i, .int .i64 j] 60)) c0
    have c1':=cell_later (ba w (.cells #[.int .i64 i, .int .i64 j] 60)) c1
    clear h hi
    go_enter Tryz.func79,Tryz.ntmps79
    go_wp2
    go_quiet (fail)
    go_wp2
    go_ret
    exact⟨rfl,bq _ _ _⟩
set_option maxHeartbeats 1000000 in
theorem Yi {i j r:Nat} {w:World} {base bb lb cap n:Nat} {rs:List Nat} {T:List (List A0)} (h:BT w base bb lb cap n rs T) (hi:rs[i]?=some r) (hj:j < n):
 Calls Tryz.prog 79 #[.pointer (some ⟨bb,0,none⟩), .agg #[.int .i64 i, .int .i64 j]] w fun e w'=> e= .returned (.pointer (some ⟨r,j * 4,none⟩))∧Below w.heap.size w w':=by
 have c0:=h.c0
 have hlr:=h.lr
 have hln:=h.ln
 have hlt:i < rs.length:=(List.getElem?_eq_some_iff.1 hi).1
 obtain⟨r',row,hr,_,_,c1,_⟩:=h.row (i:=i) hlt
 rw [hi] at hr
 obtain rfl:=Option.some.inj hr
 have e2:decide (rs.length≤i)=false:=by simp;omega
 have e4:decide (n≤j)=false:=by simp;omega
 have c0':=cell_later (ba w (.cells #[.int .i64 i, .int .i64 j] 60)) c0
 have c1':=cell_later (ba w (.cells #[.int .i64 i, .int .i64 j] 60)) c1
 clear h hi hr
 go_enter Tryz.func79,Tryz.ntmps79
 go_wp2
 go_quiet (fail)
 go_wp2
 go_quiet (fail)
 go_wp2
 go_ret
 exact⟨rfl,below_drewN (bq _ _ _) _⟩
end Go.Proofs.YtbibeionenjmfaaGreatDoor
namespace Go.Proofs.YtbibeionenjmfaaGreatDoor
open Go.RowKit
theorem BT.lt0 {w:World} {base bb lb cap n:Nat} {rs:List Nat} {T:List (List A0)} (h:BT w base bb lb cap n rs T) {i r:Nat} (hi:rs[i]?=some r):r < w.heap.size∧base≤r:=by
 obtain⟨r',row,hr,_,_,_,o⟩:=h.row (i:=i) (List.getElem?_eq_some_iff.1 hi).1
 rw [hi] at hr
 obtain rfl:=Option.some.inj hr
 have:=o.lt r rfl
 omega
theorem BT.elem {w:World} {base bb lb cap n:Nat} {rs:List Nat} {T:List (List A0)} (h:BT w base bb lb cap n rs T) {i j r:Nat} {row:List A0} {s:A0} (hi:rs[i]?=some r) (hT:T[i]?=some row) (hj:row[j]?=some s):
 w.cell? ⟨r,j * 4,none⟩=some (.bool s.1)∧w.cell? ⟨r,j * 4+1,none⟩=some (.int .i64 s.2.1)∧w.cell? ⟨r,j * 4+2,none⟩=some (.bool s.2.2.1)∧w.cell? ⟨r,j * 4+3,none⟩=some (.int .i64 s.2.2.2)∧(∀ k,w.frozen? ⟨r,k,none⟩=false)∧j < n:=by
 have o:=h.ow i r row hi hT
 refine⟨o.cellAt (j:=0) Eg hj rfl,o.cellAt (j:=1) Eg hj rfl,o.cellAt (j:=2) Eg hj rfl,o.cellAt (j:=3) Eg hj rfl,fun k=> o.frozenAt k,?_⟩
 have:=o.len
 have:=(List.getElem?_eq_some_iff.1 hj).1
 omega
theorem Oi {w w':World} {a:Addr} (h:Below w.heap.size w w') (hb:a.block < w.heap.size) (hz:w.frozen? a=false):w'.frozen? a=false:=by
 have e:w'.heap[a.block]?=w.heap[a.block]?:=h.block a.block hb
 unfold World.frozen? at hz ⊢
 rw [e];exact hz
theorem E4 {w:World} {cs:Array Value} {t:TypeId} {j:Nat} {v:Value} (h:cs[j]?=some v):(w.alloc (.cells cs t)).cell? ⟨w.heap.size,j,none⟩=some v:=by
 have:=B3 w (.cells cs t)
 simp only [World.cell?]
 rw [this]
 exact h
theorem Um {w:World} {cs:Array Value} {t:TypeId} {j:Nat}:(w.alloc (.cells cs t)).frozen? ⟨w.heap.size,j,none⟩=false:=by
 have:=B3 w (.cells cs t)
 unfold World.frozen?
 rw [this]
 simp
set_option maxHeartbeats 1000000 in
theorem An3 (a b:Int) {w:World} {base bb lb cap n:Nat} {rs:List Nat} {T:List (List A0)} (h:BT w base bb lb cap n rs T) (hi:¬ (0≤a∧a < rs.length∧0≤b∧b < n)):
 Calls Tryz.prog 46 #[.pointer (some ⟨bb,0,none⟩), .agg #[.int .i64 a, .int .i64 b]] w fun e w'=> e= .returned (.tuple #[.agg #[.int .i64 0, .bool false, .int .i64 0],Du 5])∧Below w.heap.size w w':=by
 rw [Ar (by decide)]
 have HB:=fun w' (k:Below w.heap.size w w')=> Aok a b (h.below k) hi
 have HB:=Aa HB
 clear h hi
 go_enter Tryz.func46,Tryz.ntmps46
 go_wp2_with fail
 refine(HB.out _ ?_).mono ?_
 ·exact((Below.refl _ _).alloc (Nat.le_refl _) _).alloc (by simp) _
 rintro e w1 ⟨rfl,b1⟩
 have b0:Below w.heap.size w w1:=(((Below.refl _ _).alloc (Nat.le_refl _) _).alloc (by simp) _).trans (b1.mono (by simp;omega))
 generalize hwa:(w.alloc (Obj.cells #[Value.int IntKind.i64 a,Value.int IntKind.i64 b] 60))=wa at *
 have e1:w.heap.size+1=wa.heap.size:=by rw [←hwa];simp
 rw [e1]
 have r0:=cell_later b1 (E4 (w:=wa) (t:=33) (cs:= #[.int .i64 0, .bool false, .int .i64 0]) (j:=0) rfl)
 have r1:=cell_later b1 (E4 (w:=wa) (t:=33) (cs:= #[.int .i64 0, .bool false, .int .i64 0]) (j:=1) rfl)
 have r2:=cell_later b1 (E4 (w:=wa) (t:=33) (cs:= #[.int .i64 0, .bool false, .int .i64 0]) (j:=2) rfl)
 have z:∀ j,w1.frozen? ⟨wa.heap.size,j,none⟩=false:=fun j=> Oi b1 (by simp) Um
 have z0:=z 0
 have z1:=z 1
 have z2:=z 2
 have hge:w.heap.size≤wa.heap.size:=by omega
 clear hwa e1 z b1
 generalize wa.heap.size=rb at *
 go_wp2
 exact bodyPost_ret (v:= .tuple #[.agg #[.int .i64 0, .bool false, .int .i64 0], .iface 91 (.int .i64 5)]) (by simp [results,Tryz.results46,go_sem,r0,r1,r2,z0,z1,z2]) rfl ⟨rfl,((b0.setCell hge _).setCell hge _).setCell hge _⟩
def inV (s:A0):Value:=if s.1 then .tuple #[.agg #[.int .i64 s.2.1, .bool s.2.2.1, .int .i64 s.2.2.2], .nilIface] else .tuple #[.agg #[.int .i64 0, .bool false, .int .i64 0],Du 7]
set_option maxHeartbeats 1000000 in
theorem Ai4 {i j r:Nat} {row:List A0} {s:A0} {w:World} {base bb lb cap n:Nat} {rs:List Nat} {T:List (List A0)} (h:BT w base bb lb cap n rs T) (hi:rs[i]?=some r) (hT:T[i]?=some row) (hj:row[j]?=some s):
 Calls Tryz.prog 46 #[.pointer (some ⟨bb,0,none⟩), .agg #[.int .i64 i, .int .i64 j]] w fun e w'=> e= .returned (inV s)∧Below w.heap.size w w':=by
 obtain⟨on,ta,tf,tk⟩:=s
 have hjn:=(h.elem hi hT hj).2.2.2.2.2
 have HB:=fun w' (k:Below w.heap.size w w')=> Yi (h.below k) hi hjn
 have HB:=Aa HB
 have HE:=fun w' (k:Below w.heap.size w w')=> (h.below k).elem hi hT hj
 have HE:=Aa HE
 have hrl:=(h.lt0 hi).1
 clear h hi hT hj
 cases on
 ·show Calls _ _ _ _ fun e w'=> e= .returned (.tuple #[.agg #[.int .i64 0, .bool false, .int .i64 0],Du 7])∧_
  rw [Ar (by decide)]
  go_enter Tryz.func46,Tryz.ntmps46
  go_wp2_with fail
  refine(HB.out _ ?_).mono ?_
  ·exact((Below.refl _ _).alloc (Nat.le_refl _) _).alloc (by simp) _
  rintro e w1 ⟨rfl,b1⟩
  have b0:Below w.heap.size w w1:=(((Below.refl _ _).alloc (Nat.le_refl _) _).alloc (by simp) _).trans (b1.mono (by simp;omega))
  obtain⟨d0,d1,d2,d3,dz,_⟩:=HE.out w1 b0
  generalize hwa:(w.alloc (Obj.cells #[Value.int IntKind.i64 i,Value.int IntKind.i64 j] 60))=wa at *
  have e1:w.heap.size+1=wa.heap.size:=by rw [←hwa];simp
  rw [e1]
  have r0:=cell_later b1 (E4 (w:=wa) (t:=33) (cs:= #[.int .i64 0, .bool false, .int .i64 0]) (j:=0) rfl)
  have r1:=cell_later b1 (E4 (w:=wa) (t:=33) (cs:= #[.int .i64 0, .bool false, .int .i64 0]) (j:=1) rfl)
  have r2:=cell_later b1 (E4 (w:=wa) (t:=33) (cs:= #[.int .i64 0, .bool false, .int .i64 0]) (j:=2) rfl)
  have z:∀ j,w1.frozen? ⟨wa.heap.size,j,none⟩=false:=fun j=> Oi b1 (by simp) Um
  have z0:=z 0
  have z1:=z 1
  have z2:=z 2
  have hge:w.heap.size≤wa.heap.size:=by omega
  clear hwa e1 z b1 dz HE HB
  generalize wa.heap.size=rb at *
  go_wp2
  exact bodyPost_ret (v:= .tuple #[.agg #[.int .i64 0, .bool false, .int .i64 0], .iface 91 (.int .i64 7)]) (by simp [results,Tryz.results46,go_sem,r0,r1,r2,z0,z1,z2]) rfl ⟨rfl,((b0.setCell hge _).setCell hge _).setCell hge _⟩
 ·show Calls _ _ _ _ fun e w'=> e= .returned (.tuple #[.agg #[.int .i64 ta, .bool tf, .int .i64 tk], .nilIface])∧_
  go_enter Tryz.func46,Tryz.ntmps46
  go_wp2_with fail
  refine(HB.out _ ?_).mono ?_
  ·exact((Below.refl _ _).alloc (Nat.le_refl _) _).alloc (by simp) _
  rintro e w1 ⟨rfl,b1⟩
  have b0:Below w.heap.size w w1:=(((Below.refl _ _).alloc (Nat.le_refl _) _).alloc (by simp) _).trans (b1.mono (by simp;omega))
  obtain⟨d0,d1,d2,d3,dz,_⟩:=HE.out w1 b0
  generalize hwa:(w.alloc (Obj.cells #[Value.int IntKind.i64 i,Value.int IntKind.i64 j] 60))=wa at *
  have e1:w.heap.size+1=wa.heap.size:=by rw [←hwa];simp
  rw [e1]
  have r0:=cell_later b1 (E4 (w:=wa) (t:=33) (cs:= #[.int .i64 0, .bool false, .int .i64 0]) (j:=0) rfl)
  have r1:=cell_later b1 (E4 (w:=wa) (t:=33) (cs:= #[.int .i64 0, .bool false, .int .i64 0]) (j:=1) rfl)
  have r2:=cell_later b1 (E4 (w:=wa) (t:=33) (cs:= #[.int .i64 0, .bool false, .int .i64 0]) (j:=2) rfl)
  have z:∀ j,w1.frozen? ⟨wa.heap.size,j,none⟩=false:=fun j=> Oi b1 (by simp) Um
  have z0:=z 0
  have z1:=z 1
  have z2:=z 2
  have hge:w.heap.size≤wa.heap.size:=by omega
  have hne:r < wa.heap.size:=by omega
  clear hwa e1 z b1 dz HE HB
  generalize wa.heap.size=rb at *
  go_wp2
  exact bodyPost_ret (v:= .tuple #[.agg #[.int .i64 ta, .bool tf, .int .i64 tk], .nilIface]) (by simp [results,Tryz.results46,go_sem,r0,r1,r2,z0,z1,z2]) rfl ⟨rfl,((b0.setCell hge _).setCell hge _).setCell hge _⟩
def Ou (w:World) (r j:Nat) (y:A0):World:=(((w.setCell ⟨r,j * 4,none⟩ (.bool y.1)).setCell ⟨r,j * 4+1,none⟩ (.int .i64 y.2.1)).setCell ⟨r,j * 4+2,none⟩ (.bool y.2.2.1)).setCell ⟨r,j * 4+3,none⟩ (.int .i64 y.2.2.2)
theorem Q4 (w:World) (r j:Nat) (y:A0):Ab (fun q=> q=r) w (Ou w r j y):=
 ((((Ab.refl (fun q=> q=r) w).setCell (p:=⟨r,j * 4,none⟩) rfl _).setCell (p:=⟨r,j * 4+1,none⟩) rfl _).setCell (p:=⟨r,j * 4+2,none⟩) rfl _).setCell (p:=⟨r,j * 4+3,none⟩) rfl _
theorem Own.Ou {e:TypeId} {w:World} {base g n cap j:Nat} {l:List A0} {s:A0} (h:Own 4 Ny e w base (.slice (some ⟨g,0,none⟩) n cap) l) (hj:l[j]?=some s) (y:A0):Own 4 Ny e (Ou w g j y) base (.slice (some ⟨g,0,none⟩) n cap) (l.set j y):=by
 obtain⟨s0,s1,s2,s3⟩:=s
 obtain⟨y0,y1,y2,y3⟩:=y
 have hlt:=(List.getElem?_eq_some_iff.1 hj).1
 have h0:=h.Pv (j:=0) (y:=(y0,s1,s2,s3)) (u:= .bool y0) Eg hj (by decide) rfl
 have h1:=h0.Pv (k:=j) (x:=(y0,s1,s2,s3)) (j:=1) (y:=(y0,y1,s2,s3)) (u:= .int .i64 y1) Eg (List.getElem?_set_self hlt) (by decide) rfl
 rw [List.set_set] at h1
 have h2:=h1.Pv (k:=j) (x:=(y0,y1,s2,s3)) (j:=2) (y:=(y0,y1,y2,s3)) (u:= .bool y2) Eg (List.getElem?_set_self hlt) (by decide) rfl
 rw [List.set_set] at h2
 have h3:=h2.Pv (k:=j) (x:=(y0,y1,y2,s3)) (j:=3) (y:=(y0,y1,y2,y3)) (u:= .int .i64 y3) Eg (List.getElem?_set_self hlt) (by decide) rfl
 rw [List.set_set] at h3
 exact h3
theorem BT.put {w:World} {base bb lb cap n:Nat} {rs:List Nat} {T:List (List A0)} (h:BT w base bb lb cap n rs T) {i j r:Nat} {row:List A0} {s:A0} (hi:rs[i]?=some r) (hT:T[i]?=some row) (hj:row[j]?=some s) (y:A0):BT (Ou w r j y) base bb lb cap n rs (T.set i (row.set j y)):=by
 have k:=Q4 w r j y
 have hd:=h.d2 i r hi
 refine⟨k.cell h.c0 (fun e=> hd.1 e.symm),k.own h.ol (fun _ e=> by cases e;exact fun e=> hd.2 e.symm),fun i' r' row' hr' ht'=> ?_,by rw [List.length_set];exact h.lt,h.bt,h.d1,h.d2,h.d3,h.lr,h.ln,h.l1,h.l2⟩
 by_cases e:i=i'
 ·subst e
  rw [hi] at hr'
  obtain rfl:=Option.some.inj hr'
  rw [List.getElem?_set_self (List.getElem?_eq_some_iff.1 hT).1] at ht'
  obtain rfl:=Option.some.inj ht'
  exact(h.ow i r row hi hT).Ou hj y
 ·rw [List.getElem?_set_ne e] at ht'
  exact k.own (h.ow i' r' row' hr' ht') (fun _ e'=> by cases e';intro e';subst e';exact e (h.d3 i i' r' hi hr'))
set_option maxHeartbeats 1000000 in
theorem Al7 {ta tk:Int} {tf:Bool} {i j r:Nat} {row:List A0} {s:A0} {w:World} {base bb lb cap n:Nat} {rs:List Nat} {T:List (List A0)} (h:BT w base bb lb cap n rs T) (hi:rs[i]?=some r) (hT:T[i]?=some row) (hj:row[j]?=some s) (hs:s.1=false):
 Calls Tryz.prog 77 #[.pointer (some ⟨bb,0,none⟩), .agg #[.int .i64 i, .int .i64 j], .agg #[.int .i64 ta, .bool tf, .int .i64 tk]] w fun e w'=> e= .returned .nilIface∧Ab (fun q=> q=r) w w'∧BT w' base bb lb cap n rs (T.set i (row.set j (true,ta,tf,tk))):=by
 obtain⟨on,sa,sf,sk⟩:=s
 obtain rfl:on=false:=hs
 have hjn:=(h.elem hi hT hj).2.2.2.2.2
 have HB:=fun w' (k:Below w.heap.size w w')=> Yi (h.below k) hi hjn
 have HB:=Aa HB
 have HE:=fun w' (k:Below w.heap.size w w')=> (h.below k).elem hi hT hj
 have HE:=Aa HE
 have HP:=fun w' (k:Below w.heap.size w w')=> (h.below k).put hi hT hj (true,ta,tf,tk)
 have HP:=Aa HP
 have hrl:=(h.lt0 hi).1
 clear h hi hT hj
 go_enter Tryz.func77,Tryz.ntmps77
 go_wp2_with fail
 refine(HB.out _ ?_).mono ?_
 ·exact((Below.refl _ _).alloc (Nat.le_refl _) _).alloc (by simp) _
 rintro e w1 ⟨rfl,b1⟩
 have b0:Below w.heap.size w w1:=(((Below.refl _ _).alloc (Nat.le_refl _) _).alloc (by simp) _).trans (b1.mono (by simp;omega))
 obtain⟨d0,d1,d2,d3,dz,_⟩:=HE.out w1 b0
 have z0:=dz (j * 4)
 have z1:=dz (j * 4+1)
 have z2:=dz (j * 4+2)
 have z3:=dz (j * 4+3)
 have HQ:=Aa (HP.out w1 b0)
 have HK:=Aa ((Ab.Ai (S:=fun q=> q=r) b0 (Nat.le_refl _)).trans (Q4 w1 r j (true,ta,tf,tk)))
 generalize hwa:(w.alloc (Obj.cells #[Value.int IntKind.i64 i,Value.int IntKind.i64 j] 60))=wa at *
 have e1:w.heap.size+1=wa.heap.size:=by rw [←hwa];simp
 rw [e1]
 have r0:=cell_later b1 (E4 (w:=wa) (t:=33) (cs:= #[.int .i64 ta, .bool tf, .int .i64 tk]) (j:=0) rfl)
 have r1:=cell_later b1 (E4 (w:=wa) (t:=33) (cs:= #[.int .i64 ta, .bool tf, .int .i64 tk]) (j:=1) rfl)
 have r2:=cell_later b1 (E4 (w:=wa) (t:=33) (cs:= #[.int .i64 ta, .bool tf, .int .i64 tk]) (j:=2) rfl)
 clear hwa e1 b1 HB HE HP b0 dz
 generalize wa.heap.size=rb at *
 go_wp2
 go_ret
 exact⟨rfl,HK.out,HQ.out⟩
end Go.Proofs.YtbibeionenjmfaaGreatDoor
namespace Go.Proofs.YtbibeionenjmfaaGreatDoor
open Go.RowKit
theorem BT.lts {w:World} {base bb lb cap n:Nat} {rs:List Nat} {T:List (List A0)} (h:BT w base bb lb cap n rs T):bb < w.heap.size∧lb < w.heap.size∧∀ (i:Nat) r,rs[i]?=some r→r < w.heap.size:=
 ⟨World.block_lt_of_cell? w _ h.c0,(h.ol.lt lb rfl).2,fun _ _ hr=> (h.lt0 hr).1⟩
theorem BT.Es {w:World} {base bb lb cap n B:Nat} {rs:List Nat} {T:List (List A0)} (h:BT w base bb lb cap n rs T) {p:Addr} (hb:bb < B∧lb < B∧∀ (i:Nat) r,rs[i]?=some r→r < B) (hp:B≤p.block) (u:Value):BT (w.setCell p u) base bb lb cap n rs T:=
 h.kept (S:=fun q=> q=p.block) ((Ab.refl (fun q=> q=p.block) w).setCell rfl u) (by omega) (by omega) (fun i r hr=> by have:=hb.2.2 i r hr;omega)
set_option maxHeartbeats 1000000 in
theorem Apy (a b:Int) {w:World} {base bb lb cap n:Nat} {rs:List Nat} {T:List (List A0)} (h:BT w base bb lb cap n rs T) (hi:¬ (0≤a∧a < rs.length∧0≤b∧b < n)):
 Calls Tryz.prog 82 #[.pointer (some ⟨bb,0,none⟩), .agg #[.int .i64 a, .int .i64 b]] w fun e w'=> e= .returned (.tuple #[.agg #[.int .i64 0, .bool false, .int .i64 0],Du 5])∧Below w.heap.size w w':=by
 have HI:=fun w' (k:Below w.heap.size w w')=> An3 a b (h.below k) hi
 rw [Ar (by decide)] at *
 have HI:=Aa HI
 clear h hi
 go_enter Tryz.func82,Tryz.ntmps82
 go_wp2_with fail
 refine(HI.out _ ?_).mono ?_
 ·exact((Below.refl _ _).alloc (Nat.le_refl _) _).alloc (by simp) _
 rintro e w1 ⟨rfl,b1⟩
 have b0:Below w.heap.size w w1:=(((Below.refl _ _).alloc (Nat.le_refl _) _).alloc (by simp) _).trans (b1.mono (by simp;omega))
 generalize hwa:(w.alloc (Obj.cells #[Value.int IntKind.i64 a,Value.int IntKind.i64 b] 60))=wa at *
 have e1:w.heap.size+1=wa.heap.size:=by rw [←hwa];simp
 rw [e1]
 have K:=(Bk.new (w:=wa) (cs:= #[.int .i64 0, .bool false, .int .i64 0]) (t:=33) rfl).later b1
 have r0:=K.get (j:=0) rfl
 have r1:=K.get (j:=1) rfl
 have r2:=K.get (j:=2) rfl
 have z0:=K.fz 0
 have z1:=K.fz 1
 have z2:=K.fz 2
 have hlt:=K.lt
 have hge:w.heap.size≤wa.heap.size:=by omega
 have hs:=b0.size
 clear hwa e1 b1 K HI
 generalize wa.heap.size=rb at *
 go_wp2
 exact bodyPost_ret (v:= .tuple #[.agg #[.int .i64 0, .bool false, .int .i64 0], .iface 91 (.int .i64 5)]) (by simp [results,Tryz.results82,go_sem,r0,r1,r2,z0,z1,z2,hlt]) rfl ⟨rfl,(((b0.setCell hge _).setCell hge _).setCell hge _).alloc (by simp;omega) _⟩
set_option maxHeartbeats 1000000 in
theorem Al0 {ta tk:Int} {tf:Bool} {i j r:Nat} {row:List A0} {w:World} {base bb lb cap n:Nat} {rs:List Nat} {T:List (List A0)} (h:BT w base bb lb cap n rs T) (hi:rs[i]?=some r) (hT:T[i]?=some row) (hj:row[j]?=some (true,ta,tf,tk)):
 Calls Tryz.prog 82 #[.pointer (some ⟨bb,0,none⟩), .agg #[.int .i64 i, .int .i64 j]] w fun e w'=> e= .returned (.tuple #[.agg #[.int .i64 ta, .bool tf, .int .i64 tk], .nilIface])∧Ab (fun q=> q=r) w w'∧BT w' base bb lb cap n rs (T.set i (row.set j (false,0,false,0))):=by
 have hjn:=(h.elem hi hT hj).2.2.2.2.2
 have HI:=fun w' (k:Below w.heap.size w w')=> Ai4 (h.below k) hi hT hj
 have e0:inV (true,ta,tf,tk)= .tuple #[.agg #[.int .i64 ta, .bool tf, .int .i64 tk], .nilIface]:=rfl
 rw [e0] at HI
 have HI:=Aa HI
 have HB:=fun w' (k:Below w.heap.size w w')=> Yi (h.below k) hi hjn
 have HB:=Aa HB
 have HE:=fun w' (k:Below w.heap.size w w')=> (h.below k).elem hi hT hj
 have HE:=Aa HE
 have HP:=fun w' (k:Below w.heap.size w w')=> (h.below k).put hi hT hj (false,0,false,0)
 have HP:=Aa HP
 have hrl:=(h.lt0 hi).1
 have hlts:=Aa h.lts
 clear h hi hT hj e0
 go_enter Tryz.func82,Tryz.ntmps82
 go_wp2_with fail
 refine(HI.out _ ?_).mono ?_
 ·exact((Below.refl _ _).alloc (Nat.le_refl _) _).alloc (by simp) _
 rintro e w1 ⟨rfl,b1⟩
 have b0:Below w.heap.size w w1:=(((Below.refl _ _).alloc (Nat.le_refl _) _).alloc (by simp) _).trans (b1.mono (by simp;omega))
 have K1:=(((Bk.new (w:=w) (cs:= #[.int .i64 i, .int .i64 j]) (t:=60) rfl).alloc _).later b1)
 generalize hwa:(w.alloc (Obj.cells #[Value.int IntKind.i64 i,Value.int IntKind.i64 j] 60))=wa at *
 have e1:w.heap.size+1=wa.heap.size:=by rw [←hwa];simp
 rw [e1]
 have K2:=(Bk.new (w:=wa) (cs:= #[.int .i64 0, .bool false, .int .i64 0]) (t:=33) rfl).later b1
 have hlt:=K2.lt
 have hge:w.heap.size≤wa.heap.size:=by omega
 have hne:r < wa.heap.size:=by omega
 have hpb:w.heap.size < wa.heap.size:=by omega
 have hs:=b0.size
 clear hwa e1 b1 HI
 have p0:=K1.get (j:=0) rfl
 have p1:=K1.get (j:=1) rfl
 have hlp:=K1.lt
 generalize wa.heap.size=rb at *
 go_wp2_with fail
 refine(HB.out _ ?_).mono ?_
 ·exact b0.alloc hs _
 rintro e w2 ⟨rfl,b2⟩
 have b3:Below w.heap.size w w2:=(b0.alloc hs _).trans (b2.mono (by simp;omega))
 obtain⟨d0,d1,d2,d3,dz,_⟩:=HE.out w2 b3
 have y0:=dz (j * 4)
 have y1:=dz (j * 4+1)
 have y2:=dz (j * 4+2)
 have y3:=dz (j * 4+3)
 have HQ:=HP.out w2 b3
 have HK:=(Ab.Ai (S:=fun q=> q=r) b3 (Nat.le_refl _)).trans (Q4 w2 r j (false,0,false,0))
 have K3:=(K2.alloc _).later b2
 have r0:=K3.get (j:=0) rfl
 have r1:=K3.get (j:=1) rfl
 have r2:=K3.get (j:=2) rfl
 have z0:=K3.fz 0
 have z1:=K3.fz 1
 have z2:=K3.fz 2
 have K4:=(Bk.new (w:=w1) (cs:= #[.int .i64 ta, .bool tf, .int .i64 tk]) (t:=33) rfl).later b2
 have s0:=K4.get (j:=0) rfl
 have s1:=K4.get (j:=1) rfl
 have s2:=K4.get (j:=2) rfl
 have HQ:=Aa HQ;have HK:=Aa HK
 clear HB HE HP K1 K2 K3 K4 b2 p0 p1 dz b0
 generalize w1.heap.size=tb at *
 go_wp2
 exact bodyPost_ret (v:= .tuple #[.agg #[.int .i64 ta, .bool tf, .int .i64 tk], .nilIface]) (by simp [results,Tryz.results82,go_sem,r0,r1,r2,z0,z1,z2]) rfl ⟨rfl,((HK.out.Es hge _).Es hge _).Es hge _,((HQ.out.Es hlts.out hge _).Es hlts.out hge _).Es hlts.out hge _⟩
theorem Agu (a:Int) {w:World} {base bb lb cap n:Nat} {rs:List Nat} {T:List (List A0)} (h:BT w base bb lb cap n rs T) (hi:¬ (0≤a∧a < rs.length)):
 Calls Tryz.prog 43 #[.pointer (some ⟨bb,0,none⟩), .int .i64 a] w fun e w'=> e= .returned (.tuple #[.agg #[.int .i64 0, .int .i64 0],Du 5])∧Below w.heap.size w w':=by
 rw [Ar (by decide)]
 have c0:=h.c0
 have hlr:=h.lr
 clear h
 by_cases h0:a < 0
 ·have e1:decide (a < 0)=true:=by simpa using h0
  clear hi
  go_enter Tryz.func43,Tryz.ntmps43
  go_wp2
  exact bodyPost_ret (v:= .tuple #[.agg #[.int .i64 0, .int .i64 0], .iface 91 (.int .i64 5)]) (by simp [results,Tryz.results43,go_sem]) rfl ⟨rfl,(Below.refl _ _).alloc (Nat.le_refl _) _⟩
 ·have e1:decide (a < 0)=false:=by simpa using h0
  have e2:decide ((rs.length:Int)≤a)=true:=by simp;omega
  have c0':=cell_later (ba w (.cells #[.int .i64 0, .int .i64 0] 60)) c0
  clear hi
  go_enter Tryz.func43,Tryz.ntmps43
  go_wp2
  exact bodyPost_ret (v:= .tuple #[.agg #[.int .i64 0, .int .i64 0], .iface 91 (.int .i64 5)]) (by simp [results,Tryz.results43,go_sem]) rfl ⟨rfl,(Below.refl _ _).alloc (Nat.le_refl _) _⟩
theorem Ao3 (s:A0) (w:World):
 Calls Tryz.prog 71 #[.agg #[.bool s.1, .int .i64 s.2.1, .bool s.2.2.1, .int .i64 s.2.2.2]] w fun e w'=> e= .returned (.bool (!s.1))∧Below w.heap.size w w':=by
 go_enter Tryz.func71,Tryz.ntmps71
 go_wp2
 go_ret
 exact⟨rfl,(Below.refl _ _).alloc (Nat.le_refl _) _⟩
theorem Sl.slot {w:World} {ao:Option Addr} {l:List A0} (h:Sl 4 Ny w ao l) {k:Nat} (hk:k < l.length):
 ∃ b off s,ao=some ⟨b,off,none⟩∧b < w.heap.size∧l[k]?=some s∧w.cell? ⟨b,off+k * 4,none⟩=some (.bool s.1)∧w.cell? ⟨b,off+k * 4+1,none⟩=some (.int .i64 s.2.1)∧
   w.cell? ⟨b,off+k * 4+2,none⟩=some (.bool s.2.2.1)∧w.cell? ⟨b,off+k * 4+3,none⟩=some (.int .i64 s.2.2.2):=by
 obtain⟨b,off,e,hlt,hc⟩:=h (by omega)
 exact⟨b,off,l[k],e,hlt,by simp [hk],hc k l[k] 0 _ (by simp [hk]) rfl,hc k l[k] 1 _ (by simp [hk]) rfl,hc k l[k] 2 _ (by simp [hk]) rfl,hc k l[k] 3 _ (by simp [hk]) rfl⟩
set_option maxHeartbeats 1000000 in
theorem Vn (ao:Option Addr) (cap:Nat) (l:List A0) (w:World) (hl:l.length≤1000) (hs:Sl 4 Ny w ao l):
 Calls Tryz.prog 70 #[.slice ao l.length cap, .func (.func 71) #[] #[]] w fun e w'=> e= .returned (.int .i64 (Mi (fun s:A0=> !s.1) l))∧Below w.heap.size w w':=by
 go_enter Tryz.func70,Tryz.ntmps70
 go_wp2
 go_loopw [8] (fun i wr=> ∃ k:Nat,k≤l.length∧i= .int .i64 k∧(∀ (i:Nat) x,i < k→l[i]?=some x→(!x.1)=false)∧Below w.heap.size w wr) (fun i _=> l.length - (intOf i).toNat)
 case atStart=> exact⟨0,by omega,rfl,fun i x h=> absurd h (by omega),Below.refl _ _⟩
 case round=>
  obtain⟨k,hk,rfl,hok,hnx⟩:=hrel
  have HOK:=Aa hok;clear hok
  by_cases hlt:k < l.length
  ·obtain⟨b,off,s,rfl,hbw,hlk,c0,c1,c2,c3⟩:=(hs.later hnx (Nat.le_refl _)).slot hlt
   have Hlk:=Aa hlk;clear hlk
   go_wp2_with fail
   refine(Ao3 s _).mono ?_
   rintro e w1 ⟨rfl,hb1⟩
   cases h0:s.1
   ·have H0:=Aa h0;clear h0
    go_wp2
    go_ret
    exact⟨Se (Aai Hlk.out (by rw [H0.out];rfl) HOK.out),hnx.trans (hb1.mono hnx.size)⟩
   ·have H0:=Aa h0;clear h0
    go_wp2
    go_roundw
    case rel=> exact⟨k+1,by omega,by go_num,fun i x hi hx=> by
     by_cases e:i=k
     ·subst e;rw [Hlk.out] at hx;cases hx;rw [H0.out];rfl
     ·exact HOK.out i x (by omega) hx,hnx.trans (hb1.mono hnx.size)⟩
    case measure=> simp [intOf];omega
  ·go_wp2
   go_ret
   exact⟨Se (Aah fun i x hi=> HOK.out i x (by omega)),hnx⟩
def Mj (row:List A0):Int:=Mi (fun s:A0=> !s.1) row
def Ak8 (a:Nat) (row:List A0):Value:=if Mj row < 0 then .tuple #[.agg #[.int .i64 0, .int .i64 0],Du 8] else .tuple #[.agg #[.int .i64 a, .int .i64 (Mj row)], .nilIface]
set_option maxHeartbeats 1000000 in
theorem Ajc {i:Nat} {row:List A0} {w:World} {base bb lb cap n:Nat} {rs:List Nat} {T:List (List A0)} (h:BT w base bb lb cap n rs T) (hT:T[i]?=some row):
 Calls Tryz.prog 43 #[.pointer (some ⟨bb,0,none⟩), .int .i64 i] w fun e w'=> e= .returned (Ak8 i row)∧Below w.heap.size w w':=by
 have hil:i < rs.length:=by rw [←h.lt];exact(List.getElem?_eq_some_iff.1 hT).1
 obtain⟨r,row',hr,hT',hrl,c1,hown⟩:=h.row hil
 rw [hT] at hT'
 obtain rfl:=Option.some.inj hT'
 have c0:=h.c0
 have hlr:=h.lr
 have hln:=h.ln
 have hsl:=hown.later (ba w (.cells #[.int .i64 0, .int .i64 0] 60))
 have hz:=Own.sl Eg (by rw [←hrl] at hsl;exact hsl)
 have c0':=cell_later (ba w (.cells #[.int .i64 0, .int .i64 0] 60)) c0
 have c1':=cell_later (ba w (.cells #[.int .i64 0, .int .i64 0] 60)) c1
 have e1:decide (rs.length≤i)=false:=by simp;omega
 have HX:=Aa (Vn (some ⟨r,0,none⟩) n row _ (by omega) hz)
 rw [hrl] at HX
 clear h hT hsl hz hown hrl hr hT'
 go_enter Tryz.func43,Tryz.ntmps43
 go_wp2_with fail
 refine HX.out.mono ?_
 rintro e w1 ⟨rfl,b1⟩
 have K:=(Bk.new (w:=w) (cs:= #[.int .i64 0, .int .i64 0]) (t:=60) rfl).later b1
 have b0:Below w.heap.size w w1:=((Below.refl _ _).alloc (Nat.le_refl _) _).trans (b1.mono (by simp))
 have r0:=K.get (j:=0) rfl
 have r1:=K.get (j:=1) rfl
 have z0:=K.fz 0
 have z1:=K.fz 1
 have hge:w.heap.size≤w.heap.size:=Nat.le_refl _
 have B0:=Aa b0
 clear K b0 b1 HX c0' c1' c0 c1
 have hr:Ak8 i row=if Mj row < 0 then .tuple #[.agg #[.int .i64 0, .int .i64 0],Du 8] else .tuple #[.agg #[.int .i64 i, .int .i64 (Mj row)], .nilIface]:=rfl
 rw [show Mi (fun s:A0=> !s.1) row=Mj row from rfl]
 have Hr:=Aa hr
 clear hr
 generalize Mj row=f at *
 by_cases hf:f < 0
 ·have e2:decide (f < 0)=true:=by simpa using hf
  have Hf:=Aa hf
  clear hf
  go_wp2
  exact bodyPost_ret (v:= .tuple #[.agg #[.int .i64 0, .int .i64 0], .iface 91 (.int .i64 8)]) (by simp [results,Tryz.results43,go_sem,r0,r1,z0,z1]) rfl ⟨by rw [Hr.out,if_pos Hf.out,Ar (by decide)],(B0.out.setCell (Nat.le_refl _) _).setCell (Nat.le_refl _) _⟩
 ·have e2:decide (f < 0)=false:=by simpa using hf
  have Hf:=Aa hf
  clear hf
  go_wp2
  exact bodyPost_ret (v:= .tuple #[.agg #[.int .i64 i, .int .i64 f], .nilIface]) (by simp [results,Tryz.results43,go_sem,r0,r1,z0,z1]) rfl ⟨by rw [Hr.out,if_neg (by have:=Hf.out;omega)],(B0.out.setCell (Nat.le_refl _) _).setCell (Nat.le_refl _) _⟩
theorem Ajd {w:World} {base bb lb cap n:Nat} {rs:List Nat} {T:List (List A0)} (h:BT w base bb lb cap n rs T):
 Calls Tryz.prog 78 #[.pointer (some ⟨bb,0,none⟩)] w fun e w'=> e= .returned (.tuple #[.int .i64 rs.length, .int .i64 n])∧Below w.heap.size w w':=by
 have c0:=h.c0
 have hlr:=h.lr
 have hl1:=h.l1
 obtain⟨r,row,_,_,_,c1,_⟩:=h.row (i:=0) h.l1
 clear h
 have f1:(0:Int) < (rs.length:Int):=by omega
 go_enter Tryz.func78,Tryz.ntmps78
 go_wp2
 go_quiet (fail)
 go_wp2
 go_ret2
 exact⟨rfl,below_drewN (Below.refl _ _) _⟩
end Go.Proofs.YtbibeionenjmfaaGreatDoor
namespace Go.Proofs.YtbibeionenjmfaaGreatDoor
open Go.RowKit
theorem Be (x:Int×Int):(Bx x).length=2:=rfl
def Vu (l:List (Int×Int)):Nat:=(l.filter fun x=> x.1 ==2).length
theorem Ac5 (l:List (Int×Int)):Vu l≤l.length:=List.length_filter_le _ _
theorem Ajt {l:List (Int×Int)} {k:Nat} {a b:Int} (h:l[k]?=some (a,b)):Vu (l.take (k+1))=Vu (l.take k)+if a ==2 then 1 else 0:=by
 have hlt:=(List.getElem?_eq_some_iff.1 h).1
 have hx:l[k]=(a,b):=(List.getElem?_eq_some_iff.1 h).2
 unfold Vu
 rw [List.take_succ_eq_append_getElem hlt,List.filter_append,List.length_append,hx]
 by_cases ha:(a ==2)=true <;> simp [ha]
set_option maxHeartbeats 400000 in
theorem Qj (ao:Option Addr) (cap:Nat) (l:List (Int×Int)) (w:World) (hl:l.length≤1000) (hs:Sl 2 Bx w ao l):
 Calls Tryz.prog 69 #[.slice ao l.length cap] w fun e w'=> e= .returned (.int .i64 (Vu l:Nat))∧Below w.heap.size w w':=by
 go_enter Tryz.func69,Tryz.ntmps69
 go_wp2
 go_loopw [3,8] (fun n i wr=> ∃ k:Nat,k≤l.length∧i= .int .i64 k∧n= .int .i64 (Vu (l.take k):Nat)∧Below w.heap.size w wr) (fun _ i _=> l.length - (intOf i).toNat)
 case atStart=> exact⟨0,by omega,rfl,rfl,Below.refl _ _⟩
 case round=>
  obtain⟨k,hk,rfl,rfl,hnx⟩:=hrel
  by_cases hlt:k < l.length
  ·obtain⟨b,off,st,wh,rfl,hbw,hlk,c0,c1⟩:=(hs.later hnx (Nat.le_refl _)).Ahq hlt
   have hcs:=Ajt hlk
   have hcl:=Ac5 (l.take k)
   rw [List.length_take] at hcl
   have Hcs:=Aa hcs;clear hcs hlk
   generalize Vu (l.take k)=c at *
   have hc9:(c:Int)≤1000:=by omega
   by_cases h2:(st ==2)=true
   ·have e2:Hid (Vu (l.take (k+1))=c+1):=by show _=_;rw [Hcs.out,if_pos h2]
    clear Hcs
    go_wp2
    go_roundw
    case rel=> exact⟨k+1,by omega,by go_num,by rw [e2.out];go_num,hnx.alloc hnx.size _⟩
    case measure=> simp [intOf];omega
   ·have h2':(st ==2)=false:=by simpa using h2
    have e2:Hid (Vu (l.take (k+1))=c):=by show _=_;rw [Hcs.out,if_neg h2];omega
    clear Hcs h2
    go_wp2
    go_roundw
    case rel=> exact⟨k+1,by omega,by go_num,by rw [e2.out],hnx.alloc hnx.size _⟩
    case measure=> simp [intOf];omega
  ·go_wp2
   go_ret
   rw [List.take_of_length_le (by omega)]
   exact⟨rfl,hnx⟩
theorem Aiv (a b:Int) (w:World):
 Calls Tryz.prog 135 #[.agg #[.int .i64 a, .int .i64 b]] w fun e w'=> e= .returned (.bool (a ==0))∧Below w.heap.size w w':=by
 go_enter Tryz.func135,Tryz.ntmps135
 go_wp2
 go_ret
 exact⟨rfl,(Below.refl _ _).alloc (Nat.le_refl _) _⟩
def Eh (l:List (Int×Int)):Int:=match l.findIdx? fun x=> x.1 ==0 with
 | some i=> i
 | none=> -1
theorem Aak {l:List (Int×Int)} {k:Nat} {b:Int} (h:l[k]?=some (0,b)) (hn:∀ (i:Nat) x,i < k→l[i]?=some x→(x.1 ==0)=false):Eh l=k:=by
 unfold Eh
 have hlt:=(List.getElem?_eq_some_iff.1 h).1
 have:l.findIdx? (fun x=> x.1 ==0)=some k:=by
  rw [List.findIdx?_eq_some_iff_getElem]
  refine⟨hlt,by rw [(List.getElem?_eq_some_iff.1 h).2];rfl,fun j hj=> ?_⟩
  have:=hn j l[j] hj (List.getElem?_eq_getElem _)
  simp [this]
 rw [this]
theorem Aaj {l:List (Int×Int)} (hn:∀ (i:Nat) x,i < l.length→l[i]?=some x→(x.1 ==0)=false):Eh l= -1:=by
 unfold Eh
 have:l.findIdx? (fun x=> x.1 ==0)=none:=by
  rw [List.findIdx?_eq_none_iff]
  intro x hx
  obtain⟨i,hi⟩:=List.getElem?_of_mem hx
  exact hn i x (List.getElem?_eq_some_iff.1 hi).1 hi
 rw [this]
set_option maxHeartbeats 400000 in
theorem Me (ao:Option Addr) (cap:Nat) (l:List (Int×Int)) (w:World) (hl:l.length≤1000) (hs:Sl 2 Bx w ao l):
 Calls Tryz.prog 134 #[.slice ao l.length cap, .func (.func 135) #[] #[]] w fun e w'=> e= .returned (.int .i64 (Eh l))∧Below w.heap.size w w':=by
 go_enter Tryz.func134,Tryz.ntmps134
 go_wp2
 go_loopw [8] (fun i wr=> ∃ k:Nat,k≤l.length∧i= .int .i64 k∧(∀ (i:Nat) x,i < k→l[i]?=some x→(x.1 ==0)=false)∧Below w.heap.size w wr) (fun i _=> l.length - (intOf i).toNat)
 case atStart=> exact⟨0,by omega,rfl,fun i x h=> absurd h (by omega),Below.refl _ _⟩
 case round=>
  obtain⟨k,hk,rfl,hok,hnx⟩:=hrel
  have HOK:=Aa hok;clear hok
  by_cases hlt:k < l.length
  ·obtain⟨b,off,st,wh,rfl,hbw,hlk,c0,c1⟩:=(hs.later hnx (Nat.le_refl _)).Ahq hlt
   have Hlk:=Aa hlk;clear hlk
   go_wp2_with (go_at_call 135;refine(Aiv _ _ _).mono ?_;rintro e w1 ⟨rfl,hb1⟩)
   ·go_ret
    have h0:st=0:=by have h:(st ==0)=true:=by assumption
                     simpa using h
    subst h0
    exact⟨Se (Aak Hlk.out HOK.out),hnx.trans (hb1.mono hnx.size)⟩
   ·go_roundw
    case rel=> exact⟨k+1,by omega,by go_num,fun i x hi hx=> by
     by_cases e:i=k
     ·subst e;rw [Hlk.out] at hx;cases hx;assumption
     ·exact HOK.out i x (by omega) hx,hnx.trans (hb1.mono hnx.size)⟩
    case measure=> simp [intOf];omega
  ·go_wp2
   go_ret
   exact⟨Se (Aaj fun i x hi=> HOK.out i x (by omega)),hnx⟩
structure RT (w:World) (base tb pb sb:Nat) (ps ss:List (Int×Int)):Prop where
 c0:w.cell? ⟨tb,0,none⟩=some (.slice (some ⟨pb,0,none⟩) ps.length ps.length)
 c1:w.cell? ⟨tb,1,none⟩=some (.slice (some ⟨sb,0,none⟩) ss.length ss.length)
 op:Own 2 Bx 178 w base (.slice (some ⟨pb,0,none⟩) ps.length ps.length) ps
 os:Own 2 Bx 178 w base (.slice (some ⟨sb,0,none⟩) ss.length ss.length) ss
 bt:base≤tb
 d1:tb≠pb
 d2:tb≠sb
 d3:pb≠sb
 lp:ps.length≤60
 ls:ss.length≤4
 l1:1≤ss.length
theorem RT.kept {S:Nat→Prop} {w w':World} {base tb pb sb:Nat} {ps ss:List (Int×Int)} (h:RT w base tb pb sb ps ss) (k:Ab S w w') (h1:¬ S tb) (h2:¬ S pb) (h3:¬ S sb):RT w' base tb pb sb ps ss:=
 ⟨k.cell h.c0 h1,k.cell h.c1 h1,k.own h.op (fun _ e=> by cases e;exact h2),k.own h.os (fun _ e=> by cases e;exact h3),h.bt,h.d1,h.d2,h.d3,h.lp,h.ls,h.l1⟩
theorem RT.below {w w':World} {base tb pb sb:Nat} {ps ss:List (Int×Int)} (h:RT w base tb pb sb ps ss) (k:Below w.heap.size w w'):RT w' base tb pb sb ps ss:=
 h.kept (S:=fun _=> False) (Ab.Ai k (Nat.le_refl _)) id id id
theorem RT.sp {w:World} {base tb pb sb:Nat} {ps ss:List (Int×Int)} (h:RT w base tb pb sb ps ss):Sl 2 Bx w (some ⟨pb,0,none⟩) ps:=h.op.sl Be
theorem RT.ss {w:World} {base tb pb sb:Nat} {ps ss:List (Int×Int)} (h:RT w base tb pb sb ps ss):Sl 2 Bx w (some ⟨sb,0,none⟩) ss:=h.os.sl Be
def Jr (fold:Bool) (pb sb:Nat):Nat:=if fold then sb else pb
def Jw (fold:Bool) (ps ss:List (Int×Int)):List (Int×Int):=if fold then ss else ps
def Ajj (fold:Bool) (i:Int) (pb sb:Nat) (ps ss:List (Int×Int)):Value:=
 if 0≤i∧i < (Jw fold ps ss).length then .pointer (some ⟨Jr fold pb sb,i.toNat * 2,none⟩) else .pointer none
set_option maxHeartbeats 400000 in
theorem Ac0 (fold:Bool) (i:Int) {w:World} {base tb pb sb:Nat} {ps ss:List (Int×Int)} (h:RT w base tb pb sb ps ss):
 Calls Tryz.prog 90 #[.pointer (some ⟨tb,0,none⟩), .bool fold, .int .i64 i] w fun e w'=> e= .returned (Ajj fold i pb sb ps ss)∧w=w':=by
 have c0:=h.c0
 have c1:=h.c1
 have hlp:=h.lp
 have hls:=h.ls
 by_cases hi:0≤i∧i < (Jw fold ps ss).length
 ·have hr:Ajj fold i pb sb ps ss= .pointer (some ⟨Jr fold pb sb,i.toNat * 2,none⟩):=if_pos hi
  rw [hr]
  obtain⟨h1,h2⟩:=hi
  clear hr h
  cases fold
  ·have h2':i < (ps.length:Int):=h2
   show Calls _ _ _ _ fun e w'=> e= .returned (.pointer (some ⟨pb,i.toNat * 2,none⟩))∧w=w'
   clear h2
   obtain⟨k,rfl⟩:=Int.eq_ofNat_of_zero_le h1
   rw [Int.toNat_natCast]
   have e2:decide (ps.length≤k)=false:=by simp;omega
   go_enter Tryz.func90,Tryz.ntmps90
   go_wp2
   go_ret
   exact⟨rfl,rfl⟩
  ·have h2':i < (ss.length:Int):=h2
   show Calls _ _ _ _ fun e w'=> e= .returned (.pointer (some ⟨sb,i.toNat * 2,none⟩))∧w=w'
   clear h2
   obtain⟨k,rfl⟩:=Int.eq_ofNat_of_zero_le h1
   rw [Int.toNat_natCast]
   have e2:decide (ss.length≤k)=false:=by simp;omega
   go_enter Tryz.func90,Tryz.ntmps90
   go_wp2
   go_ret
   exact⟨rfl,rfl⟩
 ·have hr:Ajj fold i pb sb ps ss= .pointer none:=if_neg hi
  rw [hr]
  clear hr h
  cases fold
  ·have h2:¬ (0≤i∧i < (ps.length:Int)):=hi
   clear hi
   by_cases h0:i < 0
   ·have e1:decide (i < 0)=true:=by simpa using h0
    go_enter Tryz.func90,Tryz.ntmps90
    go_wp2
    go_ret
    exact⟨rfl,rfl⟩
   ·have e1:decide (i < 0)=false:=by simpa using h0
    have e2:decide ((ps.length:Int)≤i)=true:=by simp;omega
    go_enter Tryz.func90,Tryz.ntmps90
    go_wp2
    go_ret
    exact⟨rfl,rfl⟩
  ·have h2:¬ (0≤i∧i < (ss.length:Int)):=hi
   clear hi
   by_cases h0:i < 0
   ·have e1:decide (i < 0)=true:=by simpa using h0
    go_enter Tryz.func90,Tryz.ntmps90
    go_wp2
    go_ret
    exact⟨rfl,rfl⟩
   ·have e1:decide (i < 0)=false:=by simpa using h0
    have e2:decide ((ss.length:Int)≤i)=true:=by simp;omega
    go_enter Tryz.func90,Tryz.ntmps90
    go_wp2
    go_ret
    exact⟨rfl,rfl⟩
def Fy (l:List (Int×Int)):Bool:=decide (Vu l=l.length)
set_option maxHeartbeats 400000 in
theorem Td {w:World} {base tb pb sb:Nat} {ps ss:List (Int×Int)} (h:RT w base tb pb sb ps ss):
 Calls Tryz.prog 54 #[.pointer (some ⟨tb,0,none⟩)] w fun e w'=> e= .returned (.bool (Fy ps))∧Below w.heap.size w w':=by
 have c0:=h.c0
 have hcl:=Ac5 ps
 have hlp:=h.lp
 have hls:=h.ls
 have hsl:=h.sp
 go_enter Tryz.func54,Tryz.ntmps54
 go_wp2
 go_region_held3 (fun w'=> w'.cell? ⟨tb,0,none⟩=some (.slice (some ⟨pb,0,none⟩) ps.length ps.length)∧Sl 2 Bx w' (some ⟨pb,0,none⟩) ps∧Below w.heap.size w w')
  (first | (go_split_ands;exact⟨by simpa using c0,hsl,(Below.refl _ _).drew⟩) | (go_split_ands;exact⟨cell_later hb1 (by assumption),Sl.later (by assumption) hb1 (Nat.le_refl _),Below.trans (by assumption) (hb1.mono (Below.size (by assumption)))⟩))
  ((go_at_call 69;refine(Qj _ _ ps _ (by omega) (And.left (And.right (by assumption)))).mono ?_;rintro e w1 ⟨rfl,hb1⟩))
 go_wp2
 go_ret
 exact⟨J1 (by unfold Fy;rw [Bool.eq_iff_iff];simp;omega),And.right (And.right (by assumption))⟩
set_option maxHeartbeats 400000 in
theorem Wj {w:World} {base tb pb sb:Nat} {ps ss:List (Int×Int)} (h:RT w base tb pb sb ps ss):
 Calls Tryz.prog 42 #[.pointer (some ⟨tb,0,none⟩)] w fun e w'=> e= .returned (.bool (Fy ss))∧Below w.heap.size w w':=by
 have c1:=h.c1
 have hcl:=Ac5 ss
 have hlp:=h.lp
 have hls:=h.ls
 have hsl:=h.ss
 go_enter Tryz.func42,Tryz.ntmps42
 go_wp2
 go_region_held3 (fun w'=> w'.cell? ⟨tb,1,none⟩=some (.slice (some ⟨sb,0,none⟩) ss.length ss.length)∧Sl 2 Bx w' (some ⟨sb,0,none⟩) ss∧Below w.heap.size w w')
  (first | (go_split_ands;exact⟨by simpa using c1,hsl,(Below.refl _ _).drew⟩) | (go_split_ands;exact⟨cell_later hb1 (by assumption),Sl.later (by assumption) hb1 (Nat.le_refl _),Below.trans (by assumption) (hb1.mono (Below.size (by assumption)))⟩))
  ((go_at_call 69;refine(Qj _ _ ss _ (by omega) (And.left (And.right (by assumption)))).mono ?_;rintro e w1 ⟨rfl,hb1⟩))
 go_wp2
 go_ret
 exact⟨J1 (by unfold Fy;rw [Bool.eq_iff_iff];simp;omega),And.right (And.right (by assumption))⟩
set_option maxHeartbeats 400000 in
theorem Z4 {w:World} {base tb pb sb:Nat} {ps ss:List (Int×Int)} (h:RT w base tb pb sb ps ss):
 Calls Tryz.prog 41 #[.pointer (some ⟨tb,0,none⟩)] w fun e w'=> e= .returned (.tuple #[.int .i64 (Vu ps:Nat), .int .i64 (Vu ss:Nat)])∧Below w.heap.size w w':=by
 have c0:=h.c0
 have c1:=h.c1
 have hlp:=h.lp
 have hls:=h.ls
 have hsl:=h.sp
 have hsl2:=h.ss
 go_enter Tryz.func41,Tryz.ntmps41
 go_wp2
 go_region_held3 (fun w'=> w'.cell? ⟨tb,0,none⟩=some (.slice (some ⟨pb,0,none⟩) ps.length ps.length)∧w'.cell? ⟨tb,1,none⟩=some (.slice (some ⟨sb,0,none⟩) ss.length ss.length)∧Sl 2 Bx w' (some ⟨pb,0,none⟩) ps∧Sl 2 Bx w' (some ⟨sb,0,none⟩) ss∧Below w.heap.size w w')
  (first | (go_split_ands;exact⟨by simpa using c0,by simpa using c1,hsl,hsl2,(Below.refl _ _).drew⟩) | (go_split_ands;exact⟨cell_later hb1 (by assumption),cell_later hb1 (by assumption),Sl.later (l:=ps) (by assumption) hb1 (Nat.le_refl _),Sl.later (l:=ss) (by assumption) hb1 (Nat.le_refl _),Below.trans (by assumption) (hb1.mono (Below.size (by assumption)))⟩))
  ((go_at_call 69;refine(Qj _ _ _ _ (by omega) (by first | exact(And.left (And.right (And.right (by assumption)))) | exact(And.left (And.right (And.right (And.right (by assumption))))))).mono ?_;rintro e w1 ⟨rfl,hb1⟩))
 all_goals (try go_wp2)
 go_ret2
 exact⟨rfl,And.right (And.right (And.right (And.right (by assumption))))⟩
theorem RT.elem {w:World} {base tb pb sb:Nat} {ps ss:List (Int×Int)} (h:RT w base tb pb sb ps ss) {fold:Bool} {k:Nat} {a b:Int} (hk:(Jw fold ps ss)[k]?=some (a,b)):
 w.cell? ⟨Jr fold pb sb,k * 2,none⟩=some (.int .i64 a)∧w.cell? ⟨Jr fold pb sb,k * 2+1,none⟩=some (.int .i64 b)∧(∀ j,w.frozen? ⟨Jr fold pb sb,j,none⟩=false)∧k≤60:=by
 cases fold
 ·have hk':ps[k]?=some (a,b):=hk
  exact⟨h.op.cellAt (j:=0) Be hk' rfl,h.op.cellAt (j:=1) Be hk' rfl,fun j=> h.op.frozenAt j,by have:=(List.getElem?_eq_some_iff.1 hk').1;have:=h.lp;omega⟩
 ·have hk':ss[k]?=some (a,b):=hk
  exact⟨h.os.cellAt (j:=0) Be hk' rfl,h.os.cellAt (j:=1) Be hk' rfl,fun j=> h.os.frozenAt j,by have:=(List.getElem?_eq_some_iff.1 hk').1;have:=h.ls;omega⟩
theorem Tk {fold:Bool} {k pb sb:Nat} {ps ss:List (Int×Int)} {x} (hk:(Jw fold ps ss)[k]?=some x):Ajj fold (k:Int) pb sb ps ss= .pointer (some ⟨Jr fold pb sb,k * 2,none⟩):=by
 unfold Ajj
 have:=(List.getElem?_eq_some_iff.1 hk).1
 rw [if_pos ⟨by omega,by omega⟩,Int.toNat_natCast]
def L3 (fold:Bool) (ps:List (Int×Int)) (k:Nat) (x:Int×Int):List (Int×Int):=if fold then ps else ps.set k x
def Ic (fold:Bool) (ss:List (Int×Int)) (k:Nat) (x:Int×Int):List (Int×Int):=if fold then ss.set k x else ss
theorem RT.Apb {w:World} {base tb pb sb:Nat} {ps ss:List (Int×Int)} (h:RT w base tb pb sb ps ss) {fold:Bool} {k:Nat} {a b v:Int} (hk:(Jw fold ps ss)[k]?=some (a,b)):
 RT (w.setCell ⟨Jr fold pb sb,k * 2,none⟩ (.int .i64 v)) base tb pb sb (L3 fold ps k (v,b)) (Ic fold ss k (v,b)):=by
 have d1:=h.d1;have d2:=h.d2;have d3:=h.d3
 cases fold
 ·show RT (w.setCell ⟨pb,k * 2,none⟩ (.int .i64 v)) base tb pb sb (ps.set k (v,b)) ss
  have hk':ps[k]?=some (a,b):=hk
  exact⟨by rw [List.length_set];exact G0 h.c0 (fun e=> d1 (congrArg Addr.block e).symm),G0 h.c1 (fun e=> d1 (congrArg Addr.block e).symm),
   by rw [List.length_set];exact h.op.Pv (j:=0) (y:=(v,b)) Be hk' (by decide) rfl,h.os.setOther (by intro e;cases e;exact d3 rfl) _,h.bt,d1,d2,d3,by rw [List.length_set];exact h.lp,h.ls,h.l1⟩
 ·show RT (w.setCell ⟨sb,k * 2,none⟩ (.int .i64 v)) base tb pb sb ps (ss.set k (v,b))
  have hk':ss[k]?=some (a,b):=hk
  exact⟨G0 h.c0 (fun e=> d2 (congrArg Addr.block e).symm),by rw [List.length_set];exact G0 h.c1 (fun e=> d2 (congrArg Addr.block e).symm),
   h.op.setOther (by intro e;cases e;exact d3 rfl) _,by rw [List.length_set];exact h.os.Pv (j:=0) (y:=(v,b)) Be hk' (by decide) rfl,h.bt,d1,d2,d3,h.lp,by rw [List.length_set];exact h.ls,by rw [List.length_set];exact h.l1⟩
theorem RT.Aqc {w:World} {base tb pb sb:Nat} {ps ss:List (Int×Int)} (h:RT w base tb pb sb ps ss) {fold:Bool} {k:Nat} {a b v:Int} (hk:(Jw fold ps ss)[k]?=some (a,b)):
 RT (w.setCell ⟨Jr fold pb sb,k * 2+1,none⟩ (.int .i64 v)) base tb pb sb (L3 fold ps k (a,v)) (Ic fold ss k (a,v)):=by
 have d1:=h.d1;have d2:=h.d2;have d3:=h.d3
 cases fold
 ·show RT (w.setCell ⟨pb,k * 2+1,none⟩ (.int .i64 v)) base tb pb sb (ps.set k (a,v)) ss
  have hk':ps[k]?=some (a,b):=hk
  exact⟨by rw [List.length_set];exact G0 h.c0 (fun e=> d1 (congrArg Addr.block e).symm),G0 h.c1 (fun e=> d1 (congrArg Addr.block e).symm),
   by rw [List.length_set];exact h.op.Pv (j:=1) (y:=(a,v)) Be hk' (by decide) rfl,h.os.setOther (by intro e;cases e;exact d3 rfl) _,h.bt,d1,d2,d3,by rw [List.length_set];exact h.lp,h.ls,h.l1⟩
 ·show RT (w.setCell ⟨sb,k * 2+1,none⟩ (.int .i64 v)) base tb pb sb ps (ss.set k (a,v))
  have hk':ss[k]?=some (a,b):=hk
  exact⟨G0 h.c0 (fun e=> d2 (congrArg Addr.block e).symm),by rw [List.length_set];exact G0 h.c1 (fun e=> d2 (congrArg Addr.block e).symm),
   h.op.setOther (by intro e;cases e;exact d3 rfl) _,by rw [List.length_set];exact h.os.Pv (j:=1) (y:=(a,v)) Be hk' (by decide) rfl,h.bt,d1,d2,d3,h.lp,by rw [List.length_set];exact h.ls,by rw [List.length_set];exact h.l1⟩
theorem Am3 {fold:Bool} {ps ss:List (Int×Int)} {k:Nat} {x y:Int×Int} (hk:(Jw fold ps ss)[k]?=some x):(Jw fold (L3 fold ps k y) (Ic fold ss k y))[k]?=some y:=by
 have:=(List.getElem?_eq_some_iff.1 hk).1
 cases fold <;> exact List.getElem?_set_self this
theorem set_set {fold:Bool} {ps:List (Int×Int)} {k:Nat} {x y:Int×Int}:L3 fold (L3 fold ps k x) k y=L3 fold ps k y∧Ic fold (Ic fold ps k x) k y=Ic fold ps k y:=by
 cases fold <;> simp [L3,Ic,List.set_set]
end Go.Proofs.YtbibeionenjmfaaGreatDoor
namespace Go.Proofs.YtbibeionenjmfaaGreatDoor
open Go.RowKit
def Ku (fold:Bool) (a:Int) (ps:List (Int×Int)):Bool:= !(a ==2) && (!fold || Fy ps)
theorem Af9 {fold:Bool} {k:Nat} {a b:Int} {w:World} {base tb pb sb:Nat} {ps ss:List (Int×Int)} (h:RT w base tb pb sb ps ss) (hk:(Jw fold ps ss)[k]?=some (a,b)) (hm:Ku fold a ps=true):
 Calls Tryz.prog 72 #[.pointer (some ⟨tb,0,none⟩), .bool fold, .int .i64 k] w fun e w'=> e= .returned .nilIface∧Ab (fun q=> q=Jr fold pb sb) w w'∧
  RT w' base tb pb sb (L3 fold ps k (1,b)) (Ic fold ss k (1,b)):=by
 obtain⟨d0,d1,dz,_⟩:=h.elem hk
 have dz0:=dz (k * 2)
 have hat:=Ac0 fold k h
 rw [Tk hk] at hat
 have HAT:=Aa hat
 have HM:=Aa (Td h)
 have H:=Aa h;have HK:=Aa hk
 clear h hk dz hat
 have h2':(a ==2)=false:=by
  unfold Ku at hm
  cases h:(a ==2) <;> simp_all
 have hfd:fold=true→Fy ps=true:=by
  intro hf;unfold Ku at hm;subst hf;simp_all
 clear hm
 cases fold
 ·clear hfd
  have hS:Hid (RT (w.setCell ⟨pb,k * 2,none⟩ (.int .i64 1)) base tb pb sb (ps.set k (1,b)) ss):=H.out.Apb (fold:=false) HK.out
  have d0':w.cell? ⟨pb,k * 2,none⟩=some (.int .i64 a):=d0
  have dz':w.frozen? ⟨pb,k * 2,none⟩=false:=dz0
  have HAT':Hid (Calls Tryz.prog 90 #[.pointer (some ⟨tb,0,none⟩), .bool false, .int .i64 k] w fun e w'=> e= .returned (.pointer (some ⟨pb,k * 2,none⟩))∧w=w'):=HAT
  clear d0 d1 dz0 HAT
  go_enter Tryz.func72,Tryz.ntmps72
  go_wp2_with fail
  refine HAT'.out.mono ?_
  rintro e w1 ⟨rfl,rfl⟩
  go_wp2
  go_ret
  exact⟨rfl,(Ab.refl (fun q=> q=pb) w).setCell (p:=⟨pb,k * 2,none⟩) rfl _,hS.out⟩
 ·have HD:=Aa (hfd rfl);clear hfd
  have d0':w.cell? ⟨sb,k * 2,none⟩=some (.int .i64 a):=d0
  have dz':w.frozen? ⟨sb,k * 2,none⟩=false:=dz0
  have HAT':Hid (Calls Tryz.prog 90 #[.pointer (some ⟨tb,0,none⟩), .bool true, .int .i64 k] w fun e w'=> e= .returned (.pointer (some ⟨sb,k * 2,none⟩))∧w=w'):=HAT
  clear d0 d1 dz0 HAT
  go_enter Tryz.func72,Tryz.ntmps72
  go_wp2_with fail
  refine HAT'.out.mono ?_
  rintro e w1 ⟨rfl,rfl⟩
  go_wp2_with fail
  refine HM.out.mono ?_
  rintro e w1 ⟨rfl,hb1⟩
  rw [HD.out]
  have d2:w1.cell? ⟨sb,k * 2,none⟩=some (.int .i64 a):=cell_later hb1 d0'
  have dz2:w1.frozen? ⟨sb,k * 2,none⟩=false:=by
   rw [World.frozen?_of_block (hb1.block sb (World.block_lt_of_cell? w _ d0'))];exact dz'
  have hS:Hid (RT (w1.setCell ⟨sb,k * 2,none⟩ (.int .i64 1)) base tb pb sb ps (ss.set k (1,b))):=(H.out.below hb1).Apb (fold:=true) HK.out
  clear d0' dz'
  go_wp2
  go_ret
  exact⟨rfl,(Ab.Ai (S:=fun q=> q=sb) hb1 (Nat.le_refl _)).setCell (p:=⟨sb,k * 2,none⟩) rfl _,hS.out⟩
theorem Zu {fold:Bool} {k:Nat} {b wk:Int} {w:World} {base tb pb sb:Nat} {ps ss:List (Int×Int)} (h:RT w base tb pb sb ps ss) (hk:(Jw fold ps ss)[k]?=some (2,b)):
 Calls Tryz.prog 83 #[.pointer (some ⟨tb,0,none⟩), .bool fold, .int .i64 k, .int .i64 wk] w fun e w'=> e= .returned (.tuple #[.bool false, .nilIface])∧w=w':=by
 obtain⟨d0,d1,dz,_⟩:=h.elem hk
 have hat:=Ac0 fold k h
 rw [Tk hk] at hat
 have HAT:=Aa hat
 clear h hk dz hat
 generalize Jr fold pb sb=bb at *
 go_enter Tryz.func83,Tryz.ntmps83
 go_wp2_with fail
 refine HAT.out.mono ?_
 rintro e w1 ⟨rfl,rfl⟩
 go_wp2
 go_ret2
 exact⟨rfl,rfl⟩
theorem Acu {fold:Bool} {k:Nat} {a b wk:Int} {w:World} {base tb pb sb:Nat} {ps ss:List (Int×Int)} (h:RT w base tb pb sb ps ss) (hk:(Jw fold ps ss)[k]?=some (a,b)) (ha:¬ a=2):
 Calls Tryz.prog 83 #[.pointer (some ⟨tb,0,none⟩), .bool fold, .int .i64 k, .int .i64 wk] w fun e w'=> e= .returned (.tuple #[.bool true, .nilIface])∧Ab (fun q=> q=Jr fold pb sb) w w'∧
  RT w' base tb pb sb (L3 fold ps k (2,wk)) (Ic fold ss k (2,wk)):=by
 obtain⟨d0,d1,dz,_⟩:=h.elem hk
 have dz0:=dz (k * 2)
 have dz1:=dz (k * 2+1)
 have hset:=(h.Apb (v:=2) hk).Aqc (v:=wk) (Am3 hk)
 rw [set_set.1,set_set.2] at hset
 have HS:=Aa hset
 have hat:=Ac0 fold k h
 rw [Tk hk] at hat
 have HAT:=Aa hat
 clear h hset hk dz hat
 generalize Jr fold pb sb=bb at *
 have e1:(a !=2)=true:=by simpa using ha
 clear ha
 go_enter Tryz.func83,Tryz.ntmps83
 go_wp2_with fail
 refine HAT.out.mono ?_
 rintro e w1 ⟨rfl,rfl⟩
 go_wp2
 go_ret2
 exact⟨rfl,((Ab.refl (fun q=> q=bb) w).setCell (p:=⟨bb,k * 2,none⟩) rfl _).setCell (p:=⟨bb,k * 2+1,none⟩) rfl _,HS.out⟩
end Go.Proofs.YtbibeionenjmfaaGreatDoor
