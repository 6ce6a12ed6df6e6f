/- The journal: the text of an entry. -/
import Derived.Lib.Join
import Derived.Test.YtbibeionenjmfaaGreatDoorZFolder
set_option linter.unusedSimpArgs false
set_option linter.unusedVariables false
namespace Go.Proofs.YtbibeionenjmfaaGreatDoor
open Go.RowKit
theorem Uu {N:List Int} {j:Nat} {n:Int} (h:N[j]?=some n):Dx (N.take (j+1))=Dx (N.take j)++32::Lib.itoa n:=by
 obtain⟨hlt,hx⟩:=List.getElem?_eq_some_iff.1 h
 rw [List.take_succ_eq_append_getElem hlt,hx]
 unfold Dx
 rw [List.flatMap_append]
 simp
theorem Kw:∀ (N:List Int),Ahi N→(Dx N).length≤21 * N.length
 | [],_=> Nat.le_refl _
 | n::N,h=> by
   have h1:=h n List.mem_cons_self
   have h2:=Kw N fun x hx=> h x (List.mem_cons_of_mem _ hx)
   have h3:=C4 h1.1 h1.2
   rw [Ad7,List.length_cons,List.length_append,List.length_cons]
   omega
theorem Nj:∀ (T:List ByteArray),(∀ t∈T,t.size≤10000000)→(L7 T).length≤10000000 * T.length
 | [],_=> Nat.le_refl _
 | t::T,h=> by
   have h1:=h t List.mem_cons_self
   have h2:=Nj T fun x hx=> h x (List.mem_cons_of_mem _ hx)
   rw [Adq,List.length_append,List.length_cons,Fw]
   omega
theorem Aht (T:List ByteArray):Lib.join (T.map (·.data.toList)) []=L7 T:=by
 unfold L7
 rcases T with _ | ⟨t,T⟩
 ·rfl
 ·rw [Lib.join]
  induction T generalizing t with
  | nil=> simp [List.intercalate,List.intersperse]
  | cons u T ih=>
    have h:=ih u
    rw [List.map_cons,List.map_cons,List.flatMap_cons]
    simp only [List.intercalate,List.map_cons,List.intersperse,List.flatten_cons,List.nil_append] at h ⊢
    rw [h]
theorem Sh {T:List ByteArray} (h:∀ t∈T,t.size≤10000000):Ahi (C8 T):=by
 intro n hn
 obtain⟨t,ht,rfl⟩:=List.mem_map.1 hn
 have:=h t ht
 omega
theorem Ab3 {T:List ByteArray} {j:Nat} {t:ByteArray} (h:T[j]?=some t):(C8 T)[j]?=some (t.size:Int):=by
 unfold C8;rw [List.getElem?_map,h];rfl
theorem Ai6 (ao:Option Addr) (cap:Nat) (T:List ByteArray) (w:World) (hT:∀ t∈T,t.size≤10000000) (hl:T.length≤10000) (hc:T.length≤cap) (hs:Sl 1 Cm w ao T):
 Calls Tryz.prog 89 #[.slice ao T.length cap, .string ⟨#[]⟩] w fun e w'=> e= .returned (.string (tx (L7 T)))∧Below w.heap.size w w':=by
 rcases Nat.eq_zero_or_pos T.length with h0 | h0
 ·have:=List.length_eq_zero_iff.1 h0
  subst this
  refine(Tryz.strings_Join_none ao cap ⟨#[]⟩ w).mono ?_
  rintro e w' ⟨rfl,rfl⟩
  exact⟨rfl,Below.refl _ _⟩
 ·obtain⟨b,off,rfl,hlt,hc2⟩:=hs h0
  have hj:Lib.join (T.map (·.data.toList)) (⟨#[]⟩:ByteArray).data.toList=L7 T:=Aht T
  refine(Tryz.strings_Join b off cap T ⟨#[]⟩ w (fun j x hx=> by have:=hc2 j x 0 _ hx rfl;simpa using this) hlt (by omega) hc (by rw [hj];have:=Nj T hT;omega)).mono ?_
  rintro e w' ⟨rfl,hb⟩
  rw [hj]
  exact⟨rfl,hb⟩
set_option maxRecDepth 100000 in
set_option maxHeartbeats 2000000 in
theorem Wf (k:ByteArray) (na:Option Addr) (nc:Nat) (N:List Int) (ta:Option Addr) (tc:Nat) (T:List ByteArray) (w:World) (hg:GW w) (hk:k.size≤1000000) (hNl:N.length≤10000) (hTl:T.length≤10000) (hN:Ahi N) (hT:∀ t∈T,t.size≤10000000) (hsn:Sl 1 Fj w na N) (hst:Sl 1 Cm w ta T) (hcap:T.length≤tc):
 Calls Tryz.prog 52 #[.agg #[.string k, .slice na N.length nc, .slice ta T.length tc]] w fun e w'=> e= .returned (.string (tx (Kc (k,N,T))))∧Below w.heap.size w w':=by
 have hb0:Below w.heap.size w (w.alloc (.cells #[.string k, .slice na N.length nc, .slice ta T.length tc] 122)):=(Below.refl _ _).alloc (Nat.le_refl _) _
 have hbk:Bk (w.alloc (.cells #[.string k, .slice na N.length nc, .slice ta T.length tc] 122)) w.heap.size [.string k, .slice na N.length nc, .slice ta T.length tc]:=Bk.new rfl
 have c0:=hbk.get (j:=0) rfl
 have c1:=hbk.get (j:=1) rfl
 have c2:=hbk.get (j:=2) rfl
 have HG:=Aa hg
 have HSN:=Aa hsn
 have HST:=Aa hst
 have HB0:=Aa hb0
 have HN:=Aa hN
 have HT:=Aa hT
 clear hg hsn hst hb0 hbk hN hT
 go_enter Tryz.func52,Tryz.ntmps52
 go_wp2_with fail
 generalize hW:w.alloc (.cells #[.string k, .slice na N.length nc, .slice ta T.length tc] 122)=W at *
 clear hW
 go_loopw [3,13] (fun sv i wr=> ∃ j:Nat,j≤N.length∧i= .int .i64 j∧sv= .string (tx (k.data.toList++Dx (N.take j)))∧Below W.heap.size W wr) (fun _ i _=> N.length - (intOf i).toNat)
 case atStart=> exact⟨0,by omega,by go_num,(by simp [Dx,P2]),Below.refl _ _⟩
 case round=>
  obtain⟨j,hj,rfl,rfl,hbl⟩:=hrel
  have HBW:=Aa (HB0.out.trans (hbl.mono HB0.out.size))
  have hsz:(tx (k.data.toList++Dx (N.take j))).size≤1000000+210000:=by
   rw [Am,List.length_append,Fw]
   have h1:=Kw (N.take j) fun x hx=> HN.out x (List.mem_of_mem_take hx)
   rw [List.length_take] at h1
   omega
  by_cases hlt:j < N.length
  ·obtain⟨b,off,n,rfl,hbw,hlk,d0⟩:=(HSN.out.later HBW.out (Nat.le_refl _)).int hlt
   have hn:=HN.out n (List.mem_of_getElem? hlk)
   have HST2:Hid (tx (k.data.toList++Dx (N.take j))++(⟨#[32]⟩++tx (Lib.itoa n))=tx (k.data.toList++Dx (N.take (j+1)))):=by
    show _=_
    rw [Uu hlk]
    apply Dc
    rw [tl,tl,Ap]
    simp [tx,ByteArray.data_append]
   have HI:=Aa (Gc n wr (HG.out.later HBW.out (Nat.le_refl _)) hn.1 hn.2)
   have hD:(tx (Lib.itoa n)).size≤20:=by rw [Am];exact C4 hn.1 hn.2
   have HBL:=Aa hbl
   generalize tx (k.data.toList++Dx (N.take j))=S at *
   generalize tx (Lib.itoa n)=D at *
   have n1:¬ 9223372036854775807 < 1+D.size:=by omega
   have n2:¬ 9223372036854775807 < S.size+(1+D.size):=by omega
   clear hlk hn hbl
   go_wp2_with fail
   refine HI.out.mono ?_
   rintro e w1 ⟨rfl,b1⟩
   go_wp2
   go_roundw
   case rel=> exact⟨j+1,by omega,by go_num,(by rw [HST2.out]),HBL.out.trans (b1.mono HBL.out.size)⟩
   case measure=> (simp [intOf];try omega)
  ·obtain rfl:j=N.length:=by omega
   have c2':=cell_later hbl c2
   rw [List.take_length] at hsz ⊢
   have HBK:=Aa HBW.out
   obtain⟨W2,rfl⟩:∃ w2,w2=wr:=⟨_,rfl⟩
   have HS59:Hid (tx (k.data.toList++Dx N)++⟨#[59]⟩=tx (k.data.toList++Dx N++59::Dx ((C8 T).take 0))):=by
    show _=_
    apply Dc
    rw [tl,tl,Ap]
    simp [tx,ByteArray.data_append,Dx]
   obtain⟨S0,hS0⟩:∃ S0,S0=tx (k.data.toList++Dx N++59::Dx ((C8 T).take 0)):=⟨_,rfl⟩
   rw [←hS0] at HS59
   generalize hA:k.data.toList++Dx N=A at *
   have HS0:=Aa hS0
   clear hS0
   have hAl:(tx A).size≤1210000:=by omega
   have n3:¬ 9223372036854775807 < (tx A).size+1:=by omega
   clear hbl hsz c0 c1
   go_wp2_with fail
   rw [HS59.out]
   clear n3 HS59
   go_loopw [3,28] (fun sv i wr=> ∃ j:Nat,j≤T.length∧i= .int .i64 j∧sv= .string (tx (A++59::Dx ((C8 T).take j)))∧Below W2.heap.size W2 wr) (fun _ i _=> T.length - (intOf i).toNat)
   case atStart=> exact⟨0,by omega,by go_num,(by rw [HS0.out]),Below.refl _ _⟩
   case round=>
    clear HS0
    obtain⟨j,hj2,rfl,rfl,hbl⟩:=hrel
    have HBW2:=Aa (HBK.out.trans (hbl.mono HBK.out.size))
    have hsz:(tx (A++59::Dx ((C8 T).take j))).size≤1210000+210001:=by
     rw [Am] at hAl ⊢
     rw [List.length_append,List.length_cons]
     have h1:=Kw ((C8 T).take j) fun x hx=> Sh HT.out x (List.mem_of_mem_take hx)
     rw [List.length_take] at h1
     omega
    by_cases hlt:j < T.length
    ·obtain⟨b,off,t,rfl,hbw,hlk,d0⟩:=(HST.out.later HBW2.out (Nat.le_refl _)).str hlt
     have hn:=HT.out t (List.mem_of_getElem? hlk)
     have HST2:Hid (tx (A++59::Dx ((C8 T).take j))++(⟨#[32]⟩++tx (Lib.itoa (t.size:Int)))=tx (A++59::Dx ((C8 T).take (j+1)))):=by
      show _=_
      rw [Uu (Ab3 hlk)]
      apply Dc
      rw [tl,tl,Ap]
      simp [tx,ByteArray.data_append]
     have HI:=Aa (Gc (t.size:Int) wr (HG.out.later HBW2.out (Nat.le_refl _)) (by omega) (by omega))
     have hD:(tx (Lib.itoa (t.size:Int))).size≤20:=by rw [Am];exact C4 (by omega) (by omega)
     have HBL:=Aa hbl
     generalize tx (A++59::Dx ((C8 T).take j))=S at *
     generalize tx (Lib.itoa (t.size:Int))=D at *
     have n1:¬ 9223372036854775807 < 1+D.size:=by omega
     have n2:¬ 9223372036854775807 < S.size+(1+D.size):=by omega
     clear hlk hn hbl
     go_wp2_with fail
     refine HI.out.mono ?_
     rintro e w1 ⟨rfl,b1⟩
     go_wp2
     go_roundw
     case rel=> exact⟨j+1,by omega,by go_num,(by rw [HST2.out]),HBL.out.trans (b1.mono HBL.out.size)⟩
     case measure=> (simp [intOf];try omega)
    ·have hjT:j=T.length:=by omega
     have c2'':=cell_later hbl c2'
     have htk:(C8 T).take j=C8 T:=List.take_of_length_le (by unfold C8;rw [List.length_map];omega)
     rw [htk] at hsz ⊢
     have HJ:=Aa (Ai6 ta tc T wr HT.out hTl hcap (HST.out.later HBW2.out (Nat.le_refl _)))
     have hJl:(tx (L7 T)).size≤100000000000:=by rw [Am];have:=Nj T HT.out;omega
     have HFIN:Hid (((tx (A++59::Dx (C8 T))++⟨#[10]⟩)++tx (L7 T))++⟨#[46]⟩=tx (Kc (k,N,T))):=by
      show _=_
      subst hA
      unfold Kc
      apply Dc
      rw [tl,tl,Ap]
      simp [tx,ByteArray.data_append]
     generalize tx (A++59::Dx (C8 T))=S at *
     generalize tx (L7 T)=J at *
     have n1:¬ 9223372036854775807 < S.size+1:=by omega
     have n2:¬ 9223372036854775807 < S.size+1+J.size:=by omega
     have n3:¬ 9223372036854775807 < S.size+1+J.size+1:=by omega
     clear hbl htk
     go_wp2_with fail
     refine HJ.out.mono ?_
     rintro e w1 ⟨rfl,b1⟩
     go_wp2
     go_ret
     exact⟨by rw [←HFIN.out];rfl,HBW2.out.trans (b1.mono HBW2.out.size)⟩
end Go.Proofs.YtbibeionenjmfaaGreatDoor
