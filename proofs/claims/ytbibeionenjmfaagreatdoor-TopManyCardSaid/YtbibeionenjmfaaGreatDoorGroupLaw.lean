/- Groups of sorted pairs: in whichever order, and in whichever groups, they are the same. -/
import Derived.Test.YtbibeionenjmfaaGreatDoorExpr7
import Derived.Test.YtbibeionenjmfaaGreatDoorBench3
set_option linter.unusedSimpArgs false
set_option linter.unusedVariables false
namespace Go.Proofs.YtbibeionenjmfaaGreatDoor
open Go.RowKit
theorem Afk (xs:List ByteArray):(xs.getD 0 ⟨#[]⟩).size+(xs.getD 1 ⟨#[]⟩).size≤(xs.map ByteArray.size).sum:=by
 match xs with
 | []=> exact Nat.le_refl 0
 | [x]=>
   show x.size+0≤_
   simp
 | x::y::r=>
   show x.size+y.size≤_
   simp only [List.map_cons,List.sum_cons]
   omega
theorem Amw {k n:Int} {s line it:ByteArray} {ws xs:List ByteArray} (hl:line.size≤1000) (hi:it.size≤1000) (hw:∀ w∈ws,w.size≤1000) (hs:k=4→s.size≤1000):
 (Alg k n s line it ws xs).size≤1000+(xs.map ByteArray.size).sum:=by
 have hg:=Afk xs
 unfold Alg
 split
 ·omega
 ·split
  ·omega
  ·split
   ·rw [List.getD_eq_getElem?_getD]
    cases h:ws[n.toNat]? with
    | none=> exact Nat.zero_le _
    | some w=> have:=hw w (List.mem_of_getElem? h);show w.size≤_;omega
   ·split
    ·rename_i h4;have:=hs h4;omega
    ·split
     ·rw [ByteArray.size_append];omega
     ·split
      ·rw [ByteArray.size_extract];omega
      ·exact Nat.zero_le _
mutual
theorem Yn {line it:ByteArray} {ws:List ByteArray} {each:Bool} (hl:line.size≤1000) (hi:it.size≤1000) (hw:∀ w∈ws,w.size≤1000):∀ e:Af,J0 e true each=true→(Fw e line it ws).size≤1000 * e.nodes
 | .mk k n s a,h=> by
   obtain⟨p1,p2,p3,p4,p5,p6⟩:=Fu h
   have p4':k≤6:=by simpa using p4
   have hkid:∀ t∈Dm k,t=true:=by
    intro t ht
    unfold Dm at ht
    split at ht
    ·simpa using ht
    ·split at ht
     ·simpa using ht
     ·split at ht
      ·omega
      ·simp at ht
   have h1:=Aer hl hi hw a (Dm k) p6 hkid p5
   have h2:=Amw (k:=k) (n:=n) (s:=s) (xs:=U7 a line it ws) hl hi hw (fun h4=> by
    subst h4
    rw [Aep] at p3
    simp only [Bool.and_eq_true,decide_eq_true_eq] at p3
    omega)
   rw [Fw,Af.nodes]
   omega
theorem Aer {line it:ByteArray} {ws:List ByteArray} {each:Bool} (hl:line.size≤1000) (hi:it.size≤1000) (hw:∀ w∈ws,w.size≤1000):∀ (l:List Af) (ts:List Bool),Vb l ts each=true→(∀ t∈ts,t=true)→l.length=ts.length→((U7 l line it ws).map ByteArray.size).sum≤1000 * Af.C9 l
 | [],_,_,_,_=> by simp [U7]
 | x::l, [],_,_,hlen=> by simp at hlen
 | x::l,t::ts,h,ht,hlen=> by
   rw [Vb] at h
   simp only [Bool.and_eq_true] at h
   obtain rfl:=ht t List.mem_cons_self
   have h1:=Yn hl hi hw x h.1
   have h2:=Aer hl hi hw l ts h.2 (fun t h=> ht t (List.mem_cons_of_mem _ h)) (by simpa using hlen)
   rw [U7,List.map_cons,List.sum_cons,Af.C9]
   omega
end
theorem Wp {line it:ByteArray} {ws:List ByteArray} {each:Bool} (hl:line.size≤1000) (hi:it.size≤1000) (hw:∀ w∈ws,w.size≤1000):Hid (∀ e:Af,J0 e true each=true→e.nodes≤1000→(Fw e line it ws).size≤1000000):=by
 intro e h hn
 have:=Yn hl hi hw e h
 have h2:1000 * e.nodes≤1000 * 1000:=Nat.mul_le_mul_left 1000 hn
 omega
end Go.Proofs.YtbibeionenjmfaaGreatDoor
namespace Go.Proofs.YtbibeionenjmfaaGreatDoor
open Go.RowKit
def Pt (k:Int) (l:List Pr):List Pr:=Ae k (Dq l)
def Ha (k:Int) (x:Pr):List Pr→List Pr
 | []=> [x]
 | a::l=> if Co a x=true then a::Ha k x l else if a.1=x.1 then(a.1,two k a.2 x.2)::l else x::a::l
def O7 (l:List Pr):Prop:=l.Pairwise fun a b=> Co a b=true
theorem O7.tail {a:Pr} {l:List Pr} (h:O7 (a::l)):O7 l:=(List.pairwise_cons.1 h).2
theorem O7.head {a:Pr} {l:List Pr} (h:O7 (a::l)):∀ b∈l,Co a b=true:=(List.pairwise_cons.1 h).1
theorem Aaz {a b:Pr} (h:a.1=b.1):Co a b=false:=by unfold Co;rw [h];exact It _
theorem Me {a b:Pr}:Co a b=true∨a.1=b.1∨Co b a=true:=by
 rcases Ui a.1.toList b.1.toList with h | h | h
 ·exact .inl h
 ·exact .inr (.inl (C6 h))
 ·exact .inr (.inr h)
theorem Fc (k:Int) (x:Pr):Ha k x []= [x]:=by unfold Ha;rfl
theorem B5 {k:Int} {x a:Pr} {l:List Pr} (h:Co a x=true):Ha k x (a::l)=a::Ha k x l:=by conv=> lhs;unfold Ha;rw [if_pos h]
theorem Cw {k:Int} {x a:Pr} {l:List Pr} (h:a.1=x.1):Ha k x (a::l)=(a.1,two k a.2 x.2)::l:=by
 conv=> lhs;unfold Ha;rw [if_neg (by rw [Aaz h];decide),if_pos h]
theorem Cg {k:Int} {x a:Pr} {l:List Pr} (h:Co x a=true):Ha k x (a::l)=x::a::l:=by
 conv=> lhs;unfold Ha;rw [if_neg (by rw [He h];decide),if_neg (fun e=> by rw [Aaz e.symm] at h;cases h)]
theorem Abh {k:Int} {x y:Pr}:∀ {l:List Pr},y∈Ha k x l→y.1=x.1∨∃ z∈l,y.1=z.1
 | [],h=> by rw [Fc] at h;left;rw [List.mem_singleton.1 h]
 | a::l,h=> by
   rcases Me (a:=a) (b:=x) with e | e | e
   ·rw [B5 e] at h
    rcases List.mem_cons.1 h with h | h
    ·exact .inr ⟨a,List.mem_cons_self,by rw [h]⟩
    ·rcases Abh h with h | ⟨z,hz,h⟩
     ·exact .inl h
     ·exact .inr ⟨z,List.mem_cons_of_mem _ hz,h⟩
   ·rw [Cw e] at h
    rcases List.mem_cons.1 h with h | h
    ·exact .inr ⟨a,List.mem_cons_self,by rw [h]⟩
    ·exact .inr ⟨y,List.mem_cons_of_mem _ h,rfl⟩
   ·rw [Cg e] at h
    rcases List.mem_cons.1 h with h | h
    ·exact .inl (by rw [h])
    ·exact .inr ⟨y,h,rfl⟩
theorem Qu {k:Int} {x:Pr}:∀ {l:List Pr},O7 l→O7 (Ha k x l)
 | [],_=> by rw [Fc];exact List.pairwise_singleton _ _
 | a::l,h=> by
   rcases Me (a:=a) (b:=x) with e | e | e
   ·rw [B5 e]
    refine List.pairwise_cons.2 ⟨fun b hb=> ?_,Qu h.tail⟩
    rcases Abh hb with h1 | ⟨z,hz,h1⟩
    ·rw [Ft (a:=a) (b:=b) (c:=a) (d:=x) rfl h1];exact e
    ·rw [Ft (a:=a) (b:=b) (c:=a) (d:=z) rfl h1];exact h.head z hz
   ·rw [Cw e]
    refine List.pairwise_cons.2 ⟨fun b hb=> ?_,h.tail⟩
    rw [Ft (a:=(a.1,two k a.2 x.2)) (b:=b) (c:=a) (d:=b) rfl rfl]
    exact h.head b hb
   ·rw [Cg e]
    refine List.pairwise_cons.2 ⟨fun b hb=> ?_,h⟩
    rcases List.mem_cons.1 hb with h1 | h1
    ·rw [h1];exact e
    ·exact Gn e (h.head b h1)
theorem Wu (k:Int) (x y:Pr):∀ (l:List Pr),Ha k x (Ha k y l)=Ha k y (Ha k x l)
 | []=> by
   rw [Fc,Fc]
   rcases Me (a:=x) (b:=y) with e | e | e
   ·rw [Cg e,B5 e,Fc]
   ·rw [Cw e.symm,Cw e,Un,e]
   ·rw [B5 e,Cg e,Fc]
 | a::l=> by
   have ih:=Wu k x y l
   rcases Me (a:=a) (b:=x) with ex | ex | ex <;> rcases Me (a:=a) (b:=y) with ey | ey | ey
   ·rw [B5 ey,B5 ex,B5 ex,B5 ey,ih]
   ·rw [Cw ey,B5 ex,Cw ey]
    rw [B5 (a:=(a.1,two k a.2 y.2)) (by rw [Ft (a:=(a.1,two k a.2 y.2)) (b:=x) (c:=a) (d:=x) rfl rfl];exact ex)]
   ·rw [Cg ey,B5 ex,Cg ey]
    have hyx:Co y x=true:=Gn ey ex
    rw [B5 hyx,B5 ex]
   ·rw [B5 ey,Cw ex,Cw ex]
    rw [B5 (a:=(a.1,two k a.2 x.2)) (by rw [Ft (a:=(a.1,two k a.2 x.2)) (b:=y) (c:=a) (d:=y) rfl rfl];exact ey)]
   ·rw [Cw ey,Cw ex,Cw (a:=(a.1,two k a.2 y.2)) ex,Cw (a:=(a.1,two k a.2 x.2)) ey]
    dsimp only
    rw [←Px,←Px,Un k y.2 x.2]
   ·have hyx:Co y x=true:=by rw [Ft (a:=y) (b:=x) (c:=y) (d:=a) rfl ex.symm];exact ey
    rw [Cg ey,Cw ex,B5 hyx,Cw ex]
    rw [Cg (a:=(a.1,two k a.2 x.2)) (by rw [Ft (a:=y) (b:=(a.1,two k a.2 x.2)) (c:=y) (d:=a) rfl rfl];exact ey)]
   ·have hxy:Co x y=true:=Gn ex ey
    rw [B5 ey,Cg ex,Cg ex,B5 hxy,B5 ey]
   ·have hxy:Co x y=true:=by rw [Ft (a:=x) (b:=y) (c:=x) (d:=a) rfl ey.symm];exact ex
    rw [Cw ey,Cg ex,B5 hxy,Cw ey]
    rw [Cg (a:=(a.1,two k a.2 y.2)) (by rw [Ft (a:=x) (b:=(a.1,two k a.2 y.2)) (c:=x) (d:=a) rfl rfl];exact ex)]
   ·rcases Me (a:=x) (b:=y) with e | e | e
    ·rw [Cg ey,Cg ex,Cg e,B5 e,Cg ey]
    ·rw [Cg ey,Cg ex,Cw e.symm,Cw e,Un,e]
    ·rw [Cg ey,Cg ex,B5 e,Cg ex,Cg e]
def Nt (k:Int) (o l:List Pr):List Pr:=l.foldl (fun s x=> Ha k x s) o
theorem Wv {k:Int} {l m:List Pr} (h:l.Perm m):∀ o,Nt k o l=Nt k o m:=by
 induction h with
 | nil=> intro o;rfl
 | cons x _ ih=> intro o;exact ih _
 | swap x y l=>
   intro o
   show Nt k (Ha k x (Ha k y o)) l=Nt k (Ha k y (Ha k x o)) l
   rw [Wu]
 | trans _ _ ih1 ih2=> intro o;rw [ih1,ih2]
theorem Ml (k:Int) (o a b:List Pr):Nt k o (a++b)=Nt k (Nt k o a) b:=List.foldl_append ..
theorem Wh {k:Int}:∀ (l o:List Pr),O7 o→O7 (Nt k o l)
 | [],_,h=> h
 | x::l,_,h=> Wh l _ (Qu h)
theorem St {k:Int} {x:Pr}:∀ {l:List Pr},(∀ a∈l,Co a x=true)→Ha k x l=l++ [x]
 | [],_=> by rw [Fc];rfl
 | a::l,h=> by rw [B5 (h a List.mem_cons_self),St fun b hb=> h b (List.mem_cons_of_mem _ hb)];rfl
theorem Wx {k:Int}:∀ (l o:List Pr),O7 (o++l)→Nt k o l=o++l
 | [],o,_=> by rw [List.append_nil];rfl
 | x::l,o,h=> by
   have h1:=(List.pairwise_append.1 h).2.2
   show Nt k (Ha k x o) l=_
   rw [St fun a ha=> h1 a ha x List.mem_cons_self,Wx l (o++ [x]) (by rw [List.append_assoc];exact h),List.append_assoc]
   rfl
theorem Ads {k:Int} {x:Pr} {o:List Pr} (h:O7 o) (hx:∀ a∈o,Co x a=false):Ck k o x=Ha k x o:=by
 rcases F5 o with rfl | ⟨S,q,rfl⟩
 ·rw [Ea,Fc]
 ·have hS:∀ a∈S,Co a q=true:=fun a ha=> (List.pairwise_append.1 h).2.2 a ha q (List.mem_singleton.2 rfl)
  have hq:=hx q (by simp)
  by_cases e:q.1=x.1
  ·rw [Cb e]
   have key:∀ (S:List Pr),(∀ a∈S,Co a q=true)→Ha k x (S++ [q])=S++ [(q.1,two k q.2 x.2)]:=by
    intro S
    induction S with
    | nil=> intro _;exact Cw e
    | cons a S ih=>
      intro hS
      have ha:Co a x=true:=by rw [Ft (a:=a) (b:=x) (c:=a) (d:=q) rfl e.symm];exact hS a List.mem_cons_self
      rw [List.cons_append,B5 ha,ih fun b hb=> hS b (List.mem_cons_of_mem _ hb)]
      rfl
   rw [key S hS]
  ·rw [Cm e]
   have hqx:Co q x=true:=by
    rcases Me (a:=q) (b:=x) with h1 | h1 | h1
    ·exact h1
    ·exact absurd h1 e
    ·rw [h1] at hq;cases hq
   rw [St]
   intro a ha
   rcases List.mem_append.1 ha with ha | ha
   ·exact Gn (hS a ha) hqx
   ·rw [List.mem_singleton.1 ha];exact hqx
theorem Z9 (k:Int):∀ (l:List Pr),Bh l→Ae k l=Nt k [] l:=by
 intro l
 induction l using Mf with
 | h0=> intro _;rfl
 | hs l p ih=>
   intro h
   obtain⟨h1,_,h2⟩:=Bh.append.1 h
   rw [Ff,Ml,←ih h1]
   refine Ads (Aav k l h1) fun a ha=> ?_
   obtain⟨y,hy,e⟩:=Vt k l a ha
   rw [Ft (a:=p) (b:=a) (c:=p) (d:=y) rfl e]
   exact h2 y hy p (by simp)
theorem Mt (k:Int) (l:List Pr):Pt k l=Nt k [] l:=by
 unfold Pt
 rw [Z9 k _ (Fk l)]
 exact Wv (Md l) []
theorem Tn {k:Int} {l m:List Pr} (h:l.Perm m):Pt k l=Pt k m:=by rw [Mt,Mt];exact Wv h []
theorem Zp (k:Int) (l:List Pr):O7 (Pt k l):=by rw [Mt];exact Wh l [] List.Pairwise.nil
theorem Tt (k:Int) (a b:List Pr):Pt k (Pt k a++b)=Pt k (a++b):=by
 rw [Mt,Mt k (a++b),Ml,Ml,Wx (Pt k a) [] (Zp k a),Mt k a]
 rfl
theorem Xc (k:Int) (a b:List Pr):Pt k (Pt k a++Pt k b)=Pt k (a++b):=by
 rw [Tt,Tn List.perm_append_comm,Tt,Tn List.perm_append_comm]
end Go.Proofs.YtbibeionenjmfaaGreatDoor
