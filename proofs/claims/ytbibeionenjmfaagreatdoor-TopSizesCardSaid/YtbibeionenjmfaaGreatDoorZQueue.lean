/- Package queue: Check, Less, Pick, and the references QueuesFault, Picked: what each returns. -/
import Derived.Deep.RegionHeld3
import Derived.Test.YtbibeionenjmfaaGreatDoorZPairSum
set_option linter.unusedSimpArgs false
set_option linter.unusedVariables false
namespace Go.Proofs.YtbibeionenjmfaaGreatDoor
open Go.RowKit
def Sw (q:Int×Int):Bool:=decide (q.1 < 1) || decide (9 < q.1) || decide (q.2 < 0) || decide (12 < q.2)
def Er (l:List (Int×Int)):Int:=if l.length < 1∨4 < l.length then 2 else if l.any Sw then 1 else 0
theorem Sb {l:List (Int×Int)} (h:¬ (1≤l.length∧l.length≤4)):Er l=2:=by
 unfold Er;rw [if_pos (by omega)]
theorem Aej {l:List (Int×Int)} (h1:1≤l.length) (h2:l.length≤4) {k:Nat} {q} (hk:l[k]?=some q) (hb:Sw q=true):Er l=1:=by
 unfold Er;rw [if_neg (by omega),if_pos]
 exact List.any_eq_true.2 ⟨q,List.mem_of_getElem? hk,hb⟩
theorem Aid {l:List (Int×Int)} (h1:1≤l.length) (h2:l.length≤4) (h:∀ (i:Nat) q,i < l.length→l[i]?=some q→Sw q=false):Er l=0:=by
 unfold Er;rw [if_neg (by omega),if_neg]
 intro ha
 obtain⟨q,hq,hb⟩:=List.any_eq_true.1 ha
 obtain⟨i,hi⟩:=List.getElem?_of_mem hq
 have:=h i q (by by_cases hc:i < l.length;exact hc;simp [List.getElem?_eq_none (by omega:l.length≤i)] at hi) hi
 simp_all
def Ad8 (l:List (Int×Int)) (k:Nat):Prop:=∀ (i:Nat) q,i < k→l[i]?=some q→Sw q=false
theorem Abn {l:List (Int×Int)} {k:Nat} {q} (h:Ad8 l k) (hq:l[k]?=some q) (hb:Sw q=false):Ad8 l (k+1):=by
 intro i q' hi hq'
 by_cases e:i=k
 ·subst e;rw [hq] at hq';cases hq';exact hb
 ·exact h i q' (by omega) hq'
theorem An9 {l:List (Int×Int)} (h:Er l=0):1≤l.length∧l.length≤4∧∀ q∈l,0≤q.1∧q.1≤9:=by
 unfold Er at h
 split at h
 ·omega
 ·split at h
  ·omega
  ·rename_i h1 h2
   refine⟨by omega,by omega,fun q hq=> ?_⟩
   have hf:Sw q=false:=by
    cases hb:Sw q
    ·rfl
    ·exact absurd (List.any_eq_true.2 ⟨q,hq,hb⟩) h2
   simp only [Sw,Bool.or_eq_false_iff,decide_eq_false_iff_not] at hf
   omega
theorem Akr (a b c d h o:Int) (w:World) (h1:0≤h∧h≤1000) (h2:0≤o∧o≤1000) (h3:0≤a∧a≤9) (h4:0≤c∧c≤9):
 Calls Tryz.prog 99 #[.agg #[.int .i64 a, .int .i64 b], .agg #[.int .i64 c, .int .i64 d], .int .i64 h, .int .i64 o] w fun e w'=> e= .returned (.bool (decide (h * c < o * a)))∧Below w.heap.size w w':=by
 have k1:0≤h * c∧h * c≤9000:=⟨Int.mul_nonneg h1.1 h4.1,by have:=Int.mul_le_mul h1.2 h4.2 h4.1 (by omega:(0:Int)≤1000);omega⟩
 have k2:0≤o * a∧o * a≤9000:=⟨Int.mul_nonneg h2.1 h3.1,by have:=Int.mul_le_mul h2.2 h3.2 h3.1 (by omega:(0:Int)≤1000);omega⟩
 go_enter Tryz.func99,Tryz.ntmps99
 go_wp2
 go_ret
 exact⟨rfl,((Below.refl _ _).alloc (Nat.le_refl _) _).alloc (by simp) _⟩
set_option maxHeartbeats 400000 in
theorem Tf (ao:Option Addr) (cap:Nat) (l:List (Int×Int)) (w:World) (hl:l.length≤1000) (hs:Sl 2 Bx w ao l):
 Calls Tryz.prog 49 #[.slice ao l.length cap] w fun e w'=> e= .returned (Du (Er l))∧Below w.heap.size w w':=by
 by_cases hb:1≤l.length∧l.length≤4
 ·obtain⟨h1,h2⟩:=hb
  have e1:decide ((l.length:Int) < 1)=false:=by simp;omega
  have e2:decide (4 < (l.length:Int))=false:=by simp;omega
  go_enter Tryz.func49,Tryz.ntmps49
  go_wp2
  go_loopw [16] (fun i wr=> ∃ k:Nat,k≤l.length∧i= .int .i64 k∧Ad8 l k∧Below w.heap.size w wr) (fun i _=> l.length - (intOf i).toNat)
  case atStart=> exact⟨0,by omega,rfl,fun i q h=> absurd h (by omega),Below.refl _ _⟩
  case round=>
   obtain⟨k,hk,rfl,hok,hnx⟩:=hrel
   by_cases hlt:k < l.length
   ·obtain⟨b,off,wt,cp,rfl,hbw,hlk,c0,c1⟩:=(hs.later hnx (Nat.le_refl _)).Ahq hlt
    have Hlk:=Aa hlk;clear hlk
    have hq:Sw (wt,cp)=(decide (wt < 1) || decide (9 < wt) || decide (cp < 0) || decide (12 < cp)):=rfl
    have Hq:=Aa hq;clear hq
    go_wp2
    all_goals first
    | (go_ret;exact⟨by rw [Aej h1 h2 Hlk.out (by rw [Hq.out];simp;omega)];rfl,hnx.alloc hnx.size _⟩)
    | (go_roundw
       case rel=> exact⟨k+1,by omega,by go_num,Abn hok Hlk.out (by rw [Hq.out];simp;omega),hnx.alloc hnx.size _⟩
       case measure=> simp [intOf];omega)
   ·go_wp2
    go_ret
    exact⟨by rw [Aid h1 h2 (fun i q hi=> hok i q (by omega))];rfl,hnx⟩
 ·go_enter Tryz.func49,Tryz.ntmps49
  by_cases h0:l.length < 1
  ·have e1:decide ((l.length:Int) < 1)=true:=by simp;omega
   go_wp2
   go_ret
   exact⟨by rw [Sb hb];rfl,Below.refl _ _⟩
  ·have e1:decide ((l.length:Int) < 1)=false:=by simp;omega
   have e2:decide (4 < (l.length:Int))=true:=by simp;omega
   go_wp2
   go_ret
   exact⟨by rw [Sb hb];rfl,Below.refl _ _⟩
def Ep (l:List (Int×Int)) (has:List Int) (wants:List Bool) (b:Int) (i:Nat):Int:=
 match has[i]?,wants[i]?,l[i]? with
 | some h,some true,some (w,c)=> if c≤h then b else if b < 0 then i else
   match has[b.toNat]?,l[b.toNat]? with
   | some hb,some (wb,_)=> if h * wb < hb * w then i else b
   | _,_=> b
 | _,_,_=> b
def Bv (l:List (Int×Int)) (has:List Int) (wants:List Bool):Nat→Int
 | 0=> -1
 | k+1=> Ep l has wants (Bv l has wants k) k
theorem Xq {l has wants b i} (h:¬ i < has.length):Ep l has wants b i=b:=by
 unfold Ep;rw [List.getElem?_eq_none (by omega:has.length≤i)]
theorem Abt {l has wants b i} (h:¬ i < wants.length):Ep l has wants b i=b:=by
 unfold Ep;rw [List.getElem?_eq_none (by omega:wants.length≤i)];split <;> simp_all
theorem Aic {l has wants b i} (h:wants[i]?=some false):Ep l has wants b i=b:=by
 unfold Ep;rw [h];split <;> simp_all
theorem Aib {l has wants b i x w c} (h1:has[i]?=some x) (h2:l[i]?=some (w,c)) (h:c≤x):Ep l has wants b i=b:=by
 unfold Ep;rw [h1,h2];split
 ·rename_i e1 _ e3;cases e1;cases e3;rw [if_pos h]
 ·rfl
theorem R9 {l has wants i x w c} {b:Int} (h1:has[i]?=some x) (h2:l[i]?=some (w,c)) (h3:wants[i]?=some true) (h:¬ c≤x) (hb:b < 0):Ep l has wants b i=i:=by
 unfold Ep;rw [h1,h2,h3];simp [h,hb]
theorem Aeg {l has wants i x w c y v d} {b:Nat} (h1:has[i]?=some x) (h2:l[i]?=some (w,c)) (h3:wants[i]?=some true) (h:¬ c≤x) (h4:has[b]?=some y) (h5:l[b]?=some (v,d)) (hl:x * v < y * w):Ep l has wants (b:Int) i=i:=by
 unfold Ep;rw [h1,h2,h3];simp [h,h4,h5,hl]
theorem Aeh {l has wants i x w c y v d} {b:Nat} (h1:has[i]?=some x) (h2:l[i]?=some (w,c)) (h3:wants[i]?=some true) (h:¬ c≤x) (h4:has[b]?=some y) (h5:l[b]?=some (v,d)) (hl:¬ x * v < y * w):Ep l has wants (b:Int) i=(b:Int):=by
 unfold Ep;rw [h1,h2,h3];simp [h,h4,h5,hl];omega
theorem Nn (l has wants) (k:Nat):Bv l has wants k= -1∨∃ m:Nat,Bv l has wants k=m∧m < k∧m < has.length:=by
 induction k with
 | zero=> exact .inl rfl
 | succ k ih=>
   have key:Ep l has wants (Bv l has wants k) k=Bv l has wants k∨(Ep l has wants (Bv l has wants k) k=k∧k < has.length):=by
    by_cases hk:k < has.length
    ·unfold Ep;split <;> (try exact .inl rfl)
     split
     ·exact .inl rfl
     ·split
      ·exact .inr ⟨rfl,hk⟩
      ·split
       ·split
        ·exact .inr ⟨rfl,hk⟩
        ·exact .inl rfl
       ·exact .inl rfl
    ·exact .inl (Xq hk)
   show Ep _ _ _ _ _= -1∨_
   rcases key with e | ⟨e,hk⟩
   ·rw [Bv,e]
    rcases ih with e | ⟨m,e,h1,h2⟩
    ·exact .inl e
    ·exact .inr ⟨m,e,by omega,h2⟩
   ·exact .inr ⟨k,e,by omega,hk⟩
set_option maxHeartbeats 1000000 in
theorem Ajb (ao bo co:Option Addr) (ca cb cc:Nat) (l:List (Int×Int)) (has:List Int) (wants:List Bool) (w:World) (hl:l.length≤1000) (hlh:has.length≤1000) (hlw:wants.length≤1000)
 (hs:Sl 2 Bx w ao l) (hsh:Sl 1 Fj w bo has) (hsw:Sl 1 Gk w co wants) (hw9:∀ q∈l,0≤q.1∧q.1≤9) (hh9:∀ n∈has,0≤n∧n≤1000):
 Calls Tryz.prog 64 #[.slice ao l.length ca, .slice bo has.length cb, .slice co wants.length cc] w fun e w'=> e= .returned (.int .i64 (Bv l has wants l.length))∧Below w.heap.size w w':=by
 go_enter Tryz.func64,Tryz.ntmps64
 go_wp2
 go_loopw [7,12] (fun b i wr=> ∃ k:Nat,k≤l.length∧i= .int .i64 k∧b= .int .i64 (Bv l has wants k)∧Below w.heap.size w wr) (fun _ i _=> l.length - (intOf i).toNat)
 case atStart=> exact⟨0,by omega,rfl,rfl,Below.refl _ _⟩
 case round=>
  obtain⟨k,hk,rfl,rfl,hnx⟩:=hrel
  by_cases hlt:k < l.length
  ·obtain⟨b0,off,wt,cp,rfl,hbw,hlk,c0,c1⟩:=(hs.later hnx (Nat.le_refl _)).Ahq hlt
   have Hlk:=Aa hlk;clear hlk
   have hp:=Nn l has wants k
   have Hp:=Aa hp;clear hp
   by_cases hA:k < has.length
   ·have hA1:decide (has.length≤k)=false:=by simp;omega
    obtain⟨b1,off1,x,rfl,hbw1,hhk,c2⟩:=(hsh.later hnx (Nat.le_refl _)).int hA
    have hx9:=hh9 x (List.mem_of_getElem? hhk)
    have Hhk:=Aa hhk;clear hhk
    by_cases hB:k < wants.length
    ·have hB1:decide (wants.length≤k)=false:=by simp;omega
     obtain⟨b2,off2,wn,rfl,hbw2,hwk,c3⟩:=(hsw.later hnx (Nat.le_refl _)).bool hB
     have Hwk:=Aa hwk;clear hwk
     cases wn
     ·have Hst:Hid (Bv l has wants (k+1)=Bv l has wants k):=Aic Hwk.out
      generalize Bv l has wants k=bv at *
      go_wp2
      go_quiet (fail)
      go_wp2
      go_roundw
      case rel=> exact⟨k+1,by omega,by go_num,by rw [Hst.out],below_drewN ((hnx.alloc hnx.size _)) _⟩
      case measure=> simp [intOf];omega
     ·by_cases hC:cp≤x
      ·have hC1:decide (cp≤x)=true:=by simpa using hC
       have Hst:Hid (Bv l has wants (k+1)=Bv l has wants k):=Aib Hhk.out Hlk.out hC
       generalize Bv l has wants k=bv at *
       go_wp2
       go_quiet (fail)
       go_wp2
       go_roundw
       case rel=> exact⟨k+1,by omega,by go_num,by rw [Hst.out],below_drewN ((hnx.alloc hnx.size _)) _⟩
       case measure=> simp [intOf];omega
      ·have hC1:decide (cp≤x)=false:=by simpa using hC
       rcases Hp.out with hbv | ⟨m,hbv,hm1,hm2⟩
       ·have Hst:Hid (Bv l has wants (k+1)=(k:Int)):=R9 Hhk.out Hlk.out Hwk.out hC (by rw [hbv];decide)
        rw [hbv];clear hbv Hp
        go_wp2
        go_quiet (fail)
        go_wp2
        go_quiet (fail)
        go_wp2
        go_roundw
        case rel=> exact⟨k+1,by omega,by go_num,by rw [Hst.out],below_drewN ((hnx.alloc hnx.size _)) _⟩
        case measure=> simp [intOf];omega
       ·obtain⟨_,_,v,d,e1,_,hlm,d0,d1⟩:=(hs.later hnx (Nat.le_refl _)).Ahq (show m < l.length by omega)
        cases e1
        obtain⟨_,_,y,e1,_,hhm,d2⟩:=(hsh.later hnx (Nat.le_refl _)).int hm2
        cases e1
        have hy9:=hh9 y (List.mem_of_getElem? hhm)
        have hv9:=hw9 _ (List.mem_of_getElem? hlm)
        have ht9:=hw9 _ (List.mem_of_getElem? Hlk.out)
        have Hst:Hid (Bv l has wants (k+1)=if x * v < y * wt then(k:Int) else(m:Int)):=by
         show Ep _ _ _ _ _=_
         rw [hbv]
         split
         ·rename_i hl;exact Aeg Hhk.out Hlk.out Hwk.out hC hhm hlm hl
         ·rename_i hl;exact Aeh Hhk.out Hlk.out Hwk.out hC hhm hlm hl
        rw [hbv];clear hbv Hp
        clear hlm hhm
        go_wp2
        go_quiet (fail)
        go_wp2
        have hm0:decide ((m:Int) < 0)=false:=by simp
        have hmI:(0:Int)≤(m:Int)∧(m:Int) < (l.length:Int)∧(m:Int) < (has.length:Int):=by omega
        have hkI:(0:Int)≤(k:Int)∧(k:Int) < (has.length:Int):=by omega
        obtain⟨i1,i2,i3⟩:=hmI;obtain⟨i4,i5⟩:=hkI
        go_region_held3 (fun w'=> w'.cell? ⟨wr.heap.size,0,none⟩=some (.int .i64 wt)∧w'.cell? ⟨wr.heap.size,1,none⟩=some (.int .i64 cp)∧w'.cell? ⟨b0,off+m * 2,none⟩=some (.int .i64 v)∧w'.cell? ⟨b0,off+m * 2+1,none⟩=some (.int .i64 d)∧w'.cell? ⟨b1,off1+k,none⟩=some (.int .i64 x)∧w'.cell? ⟨b1,off1+m,none⟩=some (.int .i64 y))
         (first
          | go_keep
          | (go_split_ands;exact⟨cell_later hb1 (by assumption),cell_later hb1 (by assumption),cell_later hb1 (by assumption),cell_later hb1 (by assumption),cell_later hb1 (by assumption),cell_later hb1 (by assumption)⟩))
         ((go_at_call 99;refine(Akr _ _ _ _ _ _ _ hx9 hy9 ht9 hv9).mono ?_;rintro e w1 ⟨rfl,hb1⟩))
        go_wp2
        ·go_roundw
         case rel=> exact⟨k+1,by omega,by go_num,by rw [Hst.out,if_pos (by assumption)],(below_drewN (hnx.alloc hnx.size _) _).trans (hb1.mono (by have:=hnx.size;simp;omega))⟩
         case measure=> simp [intOf];omega
        ·go_roundw
         case rel=> exact⟨k+1,by omega,by go_num,by rw [Hst.out,if_neg (by omega)],(below_drewN (hnx.alloc hnx.size _) _).trans (hb1.mono (by have:=hnx.size;simp;omega))⟩
         case measure=> simp [intOf];omega
    ·have Hst:Hid (Bv l has wants (k+1)=Bv l has wants k):=Abt hB
     have hB1:decide (wants.length≤k)=true:=by simp;omega
     generalize Bv l has wants k=bv at *
     go_wp2
     go_quiet (fail)
     go_wp2
     go_roundw
     case rel=> exact⟨k+1,by omega,by go_num,by rw [Hst.out],below_drewN ((hnx.alloc hnx.size _)) _⟩
     case measure=> simp [intOf];omega
   ·have Hst:Hid (Bv l has wants (k+1)=Bv l has wants k):=Xq hA
    have hA2:decide (has.length≤k)=true:=by simp;omega
    generalize Bv l has wants k=bv at *
    go_wp2
    go_quiet (fail)
    go_wp2
    go_roundw
    case rel=> exact⟨k+1,by omega,by go_num,by rw [Hst.out],below_drewN ((hnx.alloc hnx.size _)) _⟩
    case measure=> simp [intOf];omega
  ·go_wp2
   go_ret
   obtain rfl:k=l.length:=by omega
   exact⟨rfl,hnx⟩
end Go.Proofs.YtbibeionenjmfaaGreatDoor
