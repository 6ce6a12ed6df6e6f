/- The bench's Count, with the floor's closure. -/
import Derived.RegionTactic
import Derived.Test.YtbibeionenjmfaaGreatDoorZBench3
set_option linter.unusedSimpArgs false
set_option linter.unusedVariables false
namespace Go.Proofs.YtbibeionenjmfaaGreatDoor
open Go.RowKit
def Pk (ps ss:List (Int×Int)):Bool×Int×Bool:=
 if Fy ss then(false,0,false) else if 0≤Eh ps then(false,Eh ps,true) else if Eh ss < 0∨Fy ps=false then(false,0,false) else(true,Eh ss,true)
def triple (t:Bool×Int×Bool):Value:= .tuple #[.bool t.1, .int .i64 t.2.1, .bool t.2.2]
set_option maxHeartbeats 1000000 in
theorem Aja {w:World} {base tb pb sb:Nat} {ps ss:List (Int×Int)} (h:RT w base tb pb sb ps ss):
 Calls Tryz.prog 98 #[.pointer (some ⟨tb,0,none⟩)] w fun e w'=> e= .returned (triple (Pk ps ss))∧Below w.heap.size w w':=by
 have hlp:=h.lp
 have hls:=h.ls
 go_enter Tryz.func98,Tryz.ntmps98
 go_wp2_with fail
 refine(Wj h).mono ?_
 rintro e w1 ⟨rfl,hb1⟩
 have h1:=h.below hb1
 cases hd:Fy ss
 ·have HD:=Aa hd;clear hd
  have c0:=h1.c0
  have c1:=h1.c1
  go_wp2_with fail
  refine(Me (some ⟨pb,0,none⟩) ps.length ps _ (by omega) h1.sp).mono ?_
  rintro e w2 ⟨rfl,hb2⟩
  have h2:=h1.below hb2
  have hb3:=hb1.trans (hb2.mono hb1.size)
  have c2:=h2.c0
  have c3:=h2.c1
  clear c0 c1 hb1 hb2 h h1
  by_cases hp:0≤Eh ps
  ·have hr:triple (Pk ps ss)= .tuple #[.bool false, .int .i64 (Eh ps), .bool true]:=by unfold Pk;rw [HD.out];simp [hp,triple]
   have Hr:=Aa hr
   have e1:decide (0≤Eh ps)=true:=by simpa using hp
   clear hr hp h2
   go_wp2
   go_ret3
   exact⟨by rw [Hr.out];rfl,hb3⟩
  ·have hr:triple (Pk ps ss)=if Eh ss < 0∨Fy ps=false then .tuple #[.bool false, .int .i64 0, .bool false] else .tuple #[.bool true, .int .i64 (Eh ss), .bool true]:=by
    unfold Pk;rw [HD.out,if_neg (by simp),if_neg hp];split <;> rfl
   have Hr:=Aa hr
   have e1:decide (0≤Eh ps)=false:=by simpa using hp
   clear hr hp
   go_wp2_with fail
   refine(Me (some ⟨sb,0,none⟩) ss.length ss _ (by omega) h2.ss).mono ?_
   rintro e w4 ⟨rfl,hb4⟩
   have h4:=h2.below hb4
   have hb5:=hb3.trans (hb4.mono hb3.size)
   clear hb4 hb3 h2
   by_cases hn:Eh ss < 0
   ·have e2:decide (Eh ss < 0)=true:=by simpa using hn
    have HN:=Aa hn;clear hn
    go_wp2
    go_ret3
    exact⟨by rw [Hr.out,if_pos (.inl HN.out)];rfl,hb5⟩
   ·have e2:decide (Eh ss < 0)=false:=by simpa using hn
    have HN:=Aa hn;clear hn
    go_wp2_with fail
    refine(Td h4).mono ?_
    rintro e w5 ⟨rfl,hb6⟩
    have hb7:=hb5.trans (hb6.mono hb5.size)
    cases hm:Fy ps
    ·have HM:=Aa hm;clear hm
     go_wp2
     go_ret3
     exact⟨by rw [Hr.out,if_pos (.inr HM.out)];rfl,hb7⟩
    ·have HM:=Aa hm;clear hm
     go_wp2
     go_ret3
     exact⟨by rw [Hr.out,if_neg (by rw [HM.out];intro h;rcases h with h | h;(have:=HN.out;omega);cases h)];rfl,hb7⟩
 ·have hr:triple (Pk ps ss)= .tuple #[.bool false, .int .i64 0, .bool false]:=by unfold Pk;rw [if_pos hd];rfl
  have Hr:=Aa hr
  clear hr hd
  go_wp2
  go_ret3
  exact⟨by rw [Hr.out];rfl,hb1⟩
theorem Amo:(Tryz.prog.info? 178).map (fun i=> (i.zero,i.size,i.bytes))=some (some (.agg #[.int .i64 0, .int .i64 0]),2,16):=by kernel_rfl
theorem An8 {w:World} {base tb pb sb p s:Nat} (ht:w.heap[tb]?=some (.cells #[.slice (some ⟨pb,0,none⟩) p p, .slice (some ⟨sb,0,none⟩) s s] 146))
 (hp:w.heap[pb]?=some (.cells (madeCells #[.int .i64 0, .int .i64 0] (p * 2)) 178)) (hs:w.heap[sb]?=some (.cells (madeCells #[.int .i64 0, .int .i64 0] (s * 2)) 178))
 (bt:base≤tb) (bp:base≤pb) (bs:base≤sb) (d1:tb≠pb) (d2:tb≠sb) (d3:pb≠sb) (lp:p≤60) (ls:s≤4) (l1:1≤s):RT w base tb pb sb (List.replicate p (0,0)) (List.replicate s (0,0)):=by
 have own:∀ (g n:Nat),w.heap[g]?=some (.cells (madeCells #[.int .i64 0, .int .i64 0] (n * 2)) 178)→base≤g→n≤1000→Own 2 Bx 178 w base (.slice (some ⟨g,0,none⟩) (List.replicate n ((0:Int),(0:Int))).length (List.replicate n ((0:Int),(0:Int))).length) (List.replicate n (0,0)):=
  fun g n h hb hn=> Own.lit Be h hb (El Be (.agg #[.int .i64 0, .int .i64 0]) (0,0) rfl n rfl) (by simp;unfold maxLen;omega)
 refine⟨?_,?_,own pb p hp bp (by omega),own sb s hs bs (by omega),bt,d1,d2,d3,by simpa using lp,by simpa using ls,by simpa using l1⟩
 ·simp [World.cell?,ht]
 ·simp [World.cell?,ht]
set_option maxHeartbeats 1000000 in
theorem Zy (p s:Nat) (w:World) (hp:p≤60) (hs:s≤4) (hs1:1≤s):
 Calls Tryz.prog 87 #[.int .i64 p, .int .i64 s] w fun e w'=> ∃ tb pb sb,e= .returned (.tuple #[.pointer (some ⟨tb,0,none⟩), .nilIface])∧Below w.heap.size w w'∧tb < w'.heap.size∧pb < w'.heap.size∧sb < w'.heap.size∧w.heap.size≤pb∧w.heap.size≤sb∧
  RT w' w.heap.size tb pb sb (List.replicate p (0,0)) (List.replicate s (0,0)):=by
 obtain⟨i0,hi,hz0,hz1,hz2⟩:=info_parts Amo
 have hmp:∀ w:World,(Instr.makeSlice 144 (.int .i64 p) (.int .i64 p)).run Tryz.prog w= .ok (.slice (some ⟨w.heap.size,0,none⟩) p p) (w.alloc (.cells (madeCells #[.int .i64 0, .int .i64 0] (p * 2)) 178)):=by
  intro w
  have:=run_makeSlice (P:=Tryz.prog) w 144 178 i0 (.agg #[.int .i64 0, .int .i64 0]) Tryz.underlying144 hi hz0 .i64 .i64 p p (by omega) (by omega) (by rw [hz1];omega) (by rw [hz2];omega) (by omega)
  rw [hz1] at this;simpa [Value.cells] using this
 have hms:∀ w:World,(Instr.makeSlice 144 (.int .i64 s) (.int .i64 s)).run Tryz.prog w= .ok (.slice (some ⟨w.heap.size,0,none⟩) s s) (w.alloc (.cells (madeCells #[.int .i64 0, .int .i64 0] (s * 2)) 178)):=by
  intro w
  have:=run_makeSlice (P:=Tryz.prog) w 144 178 i0 (.agg #[.int .i64 0, .int .i64 0]) Tryz.underlying144 hi hz0 .i64 .i64 s s (by omega) (by omega) (by rw [hz1];omega) (by rw [hz2];omega) (by omega)
  rw [hz1] at this;simpa [Value.cells] using this
 clear hi hz0 hz1 hz2
 have e1:decide (60 < (p:Int))=false:=by simp;omega
 have e2:decide ((s:Int) < 1)=false:=by simp;omega
 have e3:decide (4 < (s:Int))=false:=by simp;omega
 go_enter Tryz.func87,Tryz.ntmps87
 go_wp2
 go_region
 all_goals (try go_wp2)
 all_goals go_ret2
 ·refine⟨w.heap.size+1+1,_,_,rfl,?_,?_,?_,?_,?_,?_,An8 (Pd (by simp)) (Kr _ (Kr _ (B3 _ _))) (Kr _ (Pd (by simp))) (by omega) (by omega) (by omega) (by omega) (by omega) (by omega) hp hs hs1⟩
  ·repeat (first | exact Below.refl _ _ | refine Below.drew ?_ | refine below_drewN ?_ _ | refine Below.alloc ?_ ?_ _)
   all_goals (simp <;> omega)
  all_goals (simp <;> omega)
 ·refine⟨w.heap.size+1+1,_,_,rfl,?_,?_,?_,?_,?_,?_,An8 (Pd (by simp)) (Kr _ (Pd (by simp))) (Kr _ (Kr _ (B3 _ _))) (by omega) (by omega) (by omega) (by omega) (by omega) (by omega) hp hs hs1⟩
  ·repeat (first | exact Below.refl _ _ | refine Below.drew ?_ | refine below_drewN ?_ _ | refine Below.alloc ?_ ?_ _)
   all_goals (simp <;> omega)
  all_goals (simp <;> omega)
end Go.Proofs.YtbibeionenjmfaaGreatDoor
namespace Go.Proofs.YtbibeionenjmfaaGreatDoor
open Go.RowKit
def bump (l:List Int) (k:Int):List Int:=if 0≤k∧k < l.length then l.set k.toNat (l.getD k.toNat 0+1) else l
def Fb (wh:Int→Int) (l:List Int) (s:A0):List Int:=if s.1 then bump l (wh s.2.1) else l
def Oe (wh:Int→Int) (many:Nat) (T:List (List A0)):List Int:=T.flatten.foldl (Fb wh) (List.replicate many 0)
theorem Ajq (l:List Int) (k:Int):(bump l k).length=l.length:=by unfold bump;split <;> simp
theorem Aab (wh:Int→Int) (l:List Int) (s:A0):(Fb wh l s).length=l.length:=by unfold Fb;split;exact Ajq _ _;rfl
theorem Aao (wh:Int→Int) (S:List A0):∀ l:List Int,(S.foldl (Fb wh) l).length=l.length:=by
 induction S with
 | nil=> intro l;rfl
 | cons s S ih=> intro l;rw [List.foldl_cons,ih,Aab]
theorem Ame {l:List Int} {k:Int} {n:Int} (h:∀ x∈l,0≤x∧x≤n):∀ x∈bump l k,0≤x∧x≤n+1:=by
 intro x hx
 unfold bump at hx
 split at hx
 ·rename_i hk
  rcases List.mem_or_eq_of_mem_set hx with e | e
  ·have:=h x e;omega
  ·have hg:l.getD k.toNat 0∈l:=by
    rw [List.getD_eq_getElem?_getD,List.getElem?_eq_getElem (by omega),Option.getD_some];exact List.getElem_mem _
   have:=h _ hg
   omega
 ·have:=h x hx;omega
theorem Ac7 {wh:Int→Int} {l:List Int} {s:A0} {n:Int} (h:∀ x∈l,0≤x∧x≤n):∀ x∈Fb wh l s,0≤x∧x≤n+1:=by
 unfold Fb
 split
 ·exact Ame h
 ·intro x hx;have:=h x hx;omega
theorem Afg (wh:Int→Int) (S:List A0):∀ (l:List Int) (n:Int),(∀ x∈l,0≤x∧x≤n)→∀ x∈S.foldl (Fb wh) l,0≤x∧x≤n+S.length:=by
 induction S with
 | nil=> intro l n h x hx;have:=h x hx;simp;omega
 | cons s S ih=>
   intro l n h x hx
   have:=ih _ (n+1) (Ac7 h) x hx
   simp;omega
def La (T:List (List A0)) (k m:Nat):List A0:=(T.take k).flatten++((T[k]?).getD []).take m
theorem Ait {T:List (List A0)} {k n:Nat} {row:List A0} (h:T[k]?=some row) (hn:row.length=n):La T k n=La T (k+1) 0:=by
 unfold La
 rw [h,List.take_zero,List.append_nil,List.take_succ_eq_append_getElem (List.getElem?_eq_some_iff.1 h).1,List.flatten_append]
 rw [(List.getElem?_eq_some_iff.1 h).2]
 simp [←hn]
theorem Ae0 {T:List (List A0)} {k m:Nat} {row:List A0} {s:A0} (h:T[k]?=some row) (hm:row[m]?=some s):La T k (m+1)=La T k m++ [s]:=by
 unfold La
 rw [h,Option.getD_some,List.take_succ_eq_append_getElem (List.getElem?_eq_some_iff.1 hm).1,(List.getElem?_eq_some_iff.1 hm).2,List.append_assoc]
def Gd (wh:Int→Int) (many:Nat) (T:List (List A0)) (k m:Nat):List Int:=(La T k m).foldl (Fb wh) (List.replicate many 0)
theorem Ag8 {wh:Int→Int} {many:Nat} {T:List (List A0)} {k n:Nat} {row:List A0} (h:T[k]?=some row) (hn:row.length=n):Gd wh many T k n=Gd wh many T (k+1) 0:=by unfold Gd;rw [Ait h hn]
theorem Ac3 {wh:Int→Int} {many:Nat} {T:List (List A0)} {k m:Nat} {row:List A0} {s:A0} (h:T[k]?=some row) (hm:row[m]?=some s):Gd wh many T k (m+1)=Fb wh (Gd wh many T k m) s:=by unfold Gd;rw [Ae0 h hm,List.foldl_append];rfl
theorem Ac4 (wh:Int→Int) (many:Nat) (T:List (List A0)):Gd wh many T 0 0=List.replicate many 0:=by unfold Gd La;simp
theorem Ag6 (wh:Int→Int) (many:Nat) (T:List (List A0)) {k:Nat} (hk:k=T.length):Gd wh many T k 0=Oe wh many T:=by subst hk;unfold Gd La Oe;simp
theorem Ag7 (wh:Int→Int) (many:Nat) (T:List (List A0)) (k m:Nat):(Gd wh many T k m).length=many:=by unfold Gd;rw [Aao];simp
theorem Ajs (wh:Int→Int) (many:Nat) (T:List (List A0)) (k m:Nat):∀ x∈Gd wh many T k m,0≤x∧x≤(La T k m).length:=by
 intro x hx
 have:=Afg wh (La T k m) (List.replicate many 0) 0 (fun y hy=> by rw [(List.mem_replicate.1 hy).2];omega) x hx
 omega
end Go.Proofs.YtbibeionenjmfaaGreatDoor
namespace Go.Proofs.YtbibeionenjmfaaGreatDoor
open Go.RowKit
theorem Own.setInt {e:TypeId} {w:World} {base g n cap k:Nat} {l:List Int} (h:Own 1 Fj e w base (.slice (some ⟨g,0,none⟩) n cap) l) (hk:k < l.length) (v:Int):Own 1 Fj e (w.setCell ⟨g,k,none⟩ (.int .i64 v)) base (.slice (some ⟨g,0,none⟩) n cap) (l.set k v):=by
 have:=h.Pv (k:=k) (x:=l[k]) (j:=0) (y:=v) (u:= .int .i64 v) D5 (List.getElem?_eq_getElem hk) (by decide) rfl
 simpa using this
theorem Own.Apl {e:TypeId} {w:World} {base g n cap k:Nat} {l:List Int} (h:Own 1 Fj e w base (.slice (some ⟨g,0,none⟩) n cap) l) (hk:k < l.length):w.cell? ⟨g,k,none⟩=some (.int .i64 (l.getD k 0)):=by
 have:=h.cellAt (i:=k) (j:=0) (x:=l[k]) D5 (List.getElem?_eq_getElem hk) rfl
 rw [List.getD_eq_getElem?_getD,List.getElem?_eq_getElem hk,Option.getD_some]
 simpa using this
theorem Afe {L:List (List A0)} (h:∀ row∈L,row.length≤3):L.flatten.length≤3 * L.length:=by
 induction L with
 | nil=> simp
 | cons a L ih=>
   have h1:=h a List.mem_cons_self
   have h2:=ih (fun r hr=> h r (List.mem_cons_of_mem _ hr))
   rw [List.flatten_cons,List.length_append,List.length_cons];omega
theorem BT.Ak9 {w:World} {base bb lb cap n:Nat} {rs:List Nat} {T:List (List A0)} (h:BT w base bb lb cap n rs T):∀ row∈T,row.length≤3:=by
 intro row hr
 obtain⟨i,hi⟩:=List.getElem?_of_mem hr
 have hl:=(List.getElem?_eq_some_iff.1 hi).1
 obtain⟨r,row',_,hT,hn,_,_⟩:=h.row (i:=i) (by rw [←h.lt];exact hl)
 rw [hi] at hT
 obtain rfl:=Option.some.inj hT
 have:=h.ln;omega
theorem Alp {T:List (List A0)} (h:∀ row∈T,row.length≤3) (h4:T.length≤4) (k m:Nat):(La T k m).length≤100:=by
 unfold La
 have h1:=Afe (L:=T.take k) (fun r hr=> h r (List.mem_of_mem_take hr))
 have h2:(((T[k]?).getD []).take m).length≤3:=by
  rw [List.length_take]
  cases hT:T[k]? with
  | none=> simp
  | some row=> have:=h row (List.mem_of_getElem? hT);simp;omega
 rw [List.length_append]
 rw [List.length_take] at h1
 omega
end Go.Proofs.YtbibeionenjmfaaGreatDoor
namespace Go.Proofs.YtbibeionenjmfaaGreatDoor
open Go.RowKit
set_option maxHeartbeats 4000000 in
theorem Ack (m:Nat) (hm:m≤1000) (wh:Int→Int) (pb:Nat) {w:World} {base bb lb cap n:Nat} {rs:List Nat} {T:List (List A0)} (h:BT w base bb lb cap n rs T)
 (hw:∀ (i j:Nat) row s,T[i]?=some row→row[j]?=some s→s.1=true→∀ w',Below w.heap.size w w'→Calls Tryz.prog 56 #[.int .i64 s.2.1, .pointer (some ⟨pb,0,none⟩)] w' fun e w''=> e= .returned (.int .i64 (wh s.2.1))∧Below w'.heap.size w' w''):
 Calls Tryz.prog 55 #[.pointer (some ⟨bb,0,none⟩), .int .i64 m, .func (.func 56) #[] #[.pointer (some ⟨pb,0,none⟩)]] w fun e w'=> ∃ ob,e= .returned (.slice (some ⟨ob,0,none⟩) m m)∧Below w.heap.size w w'∧Own 1 Fj 3 w' w.heap.size (.slice (some ⟨ob,0,none⟩) m m) (Oe wh m T):=by
 obtain⟨i0,hi,hz0,hz1,hz2⟩:=info_parts Amn
 have HW:=Aa hw
 clear hw
 have hlr:=h.lr
 have hln:=h.ln
 have Hlt:=Aa h.lt
 have Hun:=Aa (fun k m=> Alp h.Ak9 (by rw [h.lt];exact hlr) k m)
 have HB:=Aa h;clear h
 have hmp:∀ w:World,(Instr.makeSlice 55 (.int .i64 m) (.int .i64 m)).run Tryz.prog w= .ok (.slice (some ⟨w.heap.size,0,none⟩) m m) (w.alloc (.cells (madeCells #[.int .i64 0] m) 3)):=by
  intro w
  have:=run_makeSlice (P:=Tryz.prog) w 55 3 i0 (.int .i64 0) Tryz.underlying55 hi hz0 .i64 .i64 m m (by omega) (by omega) (by rw [hz1];omega) (by rw [hz2];omega) (by omega)
  rw [hz1] at this;simpa [Value.cells] using this
 have ow0:Own 1 Fj 3 (w.alloc (.cells (madeCells #[.int .i64 0] m) 3)) w.heap.size (.slice (some ⟨w.heap.size,0,none⟩) m m) (Gd wh m T 0 0):=by
  rw [Ac4]
  have:=Own.lit (l:=List.replicate m (0:Int)) (enc:=Fj) (sz:=1) (e:=3) D5 (B3 w (.cells (madeCells #[.int .i64 0] m) 3)) (Nat.le_refl _) (by have:=El D5 (.int .i64 0) (0:Int) rfl m rfl;simpa [Value.cells] using this) (by simp;unfold maxLen;omega)
  simpa using this
 clear hi hz0 hz1 hz2
 have c0:=(HB.out.below (ba w (.cells (madeCells #[.int .i64 0] m) 3))).c0
 have OW0:=Aa ow0
 clear ow0
 go_enter Tryz.func55,Tryz.ntmps55
 go_wp2
 go_loopw [21] (fun i wr=> ∃ k:Nat,k≤rs.length∧i= .int .i64 k∧Below w.heap.size w wr∧Own 1 Fj 3 wr w.heap.size (.slice (some ⟨w.heap.size,0,none⟩) m m) (Gd wh m T k 0)) (fun i _=> rs.length - (intOf i).toNat)
 case atStart=> exact⟨0,by omega,rfl,ba w _,OW0.out⟩
 case round=>
  obtain⟨k,hk,rfl,hnx,how⟩:=hrel
  clear c0
  by_cases hlt:k < rs.length
  ·obtain⟨r,row,hr,hT,hrl,c1,hown⟩:=(HB.out.below hnx).row hlt
   have HT:=Aa hT
   have HR:=Aa hr
   have Hrl:=Aa hrl
   have HN:=Aa hnx
   have HOW:=Aa how
   clear hr hT hrl hown hnx how
   obtain⟨wo,hwo⟩:∃ wo:World,wo=wr:=⟨wr,rfl⟩
   subst hwo
   go_wp2
   go_loopw [27] (fun i wr=> ∃ j:Nat,j≤n∧i= .int .i64 j∧Below w.heap.size w wr∧Own 1 Fj 3 wr w.heap.size (.slice (some ⟨w.heap.size,0,none⟩) m m) (Gd wh m T k j)) (fun i _=> n - (intOf i).toNat)
   case atStart=> exact⟨0,by omega,rfl,HN.out,HOW.out⟩
   case round=>
    obtain⟨j,hj,rfl,hnx,how⟩:=hrel
    clear c1
    by_cases hlj:j < n
    ·obtain⟨s,hs⟩:∃ s,row[j]?=some s:=⟨row[j]'(by rw [Hrl.out];exact hlj),by simp [Hrl.out,hlj]⟩
     obtain⟨d0,d1,d2,d3,_,_⟩:=(HB.out.below hnx).elem HR.out HT.out hs
     have hs:=hs
     have hstep:=Ac3 (wh:=wh) (many:=m) HT.out hs
     have hcl:=Ag7 wh m T k j
     have hce:=Ajs wh m T k j
     have hun:=Hun.out k j
     have HS:=Aa hstep
     have hab:=hnx.alloc hnx.size (.cells #[.bool s.1, .int .i64 s.2.1, .bool s.2.2.1, .int .i64 s.2.2.2] 153)
     have hoa:=how.alloc (.cells #[.bool s.1, .int .i64 s.2.1, .bool s.2.2.1, .int .i64 s.2.2.2] 153)
     have HOA:=Aa hoa
     have HCL:=Aa hcl
     have hce:∀ q:Nat,q < m→0≤(Gd wh m T k j).getD q 0∧(Gd wh m T k j).getD q 0≤100:=by
      intro q hq
      have hm':(Gd wh m T k j).getD q 0∈Gd wh m T k j:=by
       rw [List.getD_eq_getElem?_getD,List.getElem?_eq_getElem (by omega),Option.getD_some];exact List.getElem_mem _
      have:=hce _ hm'
      omega
     have HCE:=Aa hce
     clear hstep hce hcl hun how hoa
     generalize Gd wh m T k j=acc at *
     cases h0:s.1
     ·have e1:Fb wh acc s=acc:=by unfold Fb;rw [h0];rfl
      have E1:=Aa e1
      rw [h0] at d0
      rw [h0] at hab
      have HOA':=HOA.out
      rw [h0] at HOA'
      have HOA':=Aa HOA'
      clear e1 h0 HOA
      go_wp2
      go_roundw
      case rel=> exact⟨j+1,by omega,by go_num,hab,by rw [HS.out,E1.out];exact HOA'.out⟩
      case measure=> simp [intOf];omega
     ·have HWS:=Aa fun w'=> HW.out k j row s HT.out hs h0 w'
      have e1:Fb wh acc s=bump acc (wh s.2.1):=by unfold Fb;rw [h0];rfl
      have E1:=Aa e1
      rw [h0] at d0
      rw [h0] at hab
      have HOA':=HOA.out
      rw [h0] at HOA'
      have HOA':=Aa HOA'
      clear e1 h0 HOA
      go_wp2_with fail
      refine(HWS.out _ hab).mono ?_
      rintro e w1 ⟨rfl,b1⟩
      have hab1:=hab.trans (b1.mono hab.size)
      have how1:=HOA'.out.later b1
      clear HOA' b1 hab d0 d1 d2 d3
      generalize wh s.2.1=q at *
      by_cases hq:0≤q∧q < m
      ·obtain⟨x,rfl⟩:∃ x:Nat,q=x:=⟨q.toNat,by omega⟩
       have hxm:x < m:=by omega
       have hxl:x < acc.length:=by rw [HCL.out];exact hxm
       obtain⟨g1,g2⟩:=HCE.out x hxm
       have q0:=how1.Apl hxl
       have z0:=how1.frozenAt x
       have hset:=how1.setInt hxl (acc.getD x 0+1)
       have e2:bump acc (x:Int)=acc.set x (acc.getD x 0+1):=by unfold bump;rw [if_pos ⟨by omega,by omega⟩,Int.toNat_natCast]
       have E2:=Aa e2
       have HSET:=Aa hset
       have hab2:=hab1.setCell (p:=⟨w.heap.size,x,none⟩) (Nat.le_refl _) (.int .i64 (acc.getD x 0+1))
       have HAB:=Aa hab2
       clear e2 hset hab2 how1 hq hxl
       generalize acc.getD x 0=av at *
       have e3:decide (x < m)=true:=by simpa using hxm
       go_wp2
       go_roundw
       case rel=> exact⟨j+1,by omega,by go_num,HAB.out,by rw [HS.out,E1.out,E2.out];exact HSET.out⟩
       case measure=> simp [intOf];omega
      ·have e2:bump acc q=acc:=by unfold bump;rw [if_neg (by rw [HCL.out];exact hq)]
       have E2:=Aa e2
       clear e2
       by_cases hq0:0≤q
       ·have hqm:¬ q < m:=fun h=> hq ⟨hq0,h⟩
        have e3:decide (0≤q)=true:=by simpa using hq0
        have e4:decide (q < (m:Int))=false:=by simpa using hqm
        clear hq
        go_wp2
        go_roundw
        case rel=> exact⟨j+1,by omega,by go_num,hab1,by rw [HS.out,E1.out,E2.out];exact how1⟩
        case measure=> simp [intOf];omega
       ·have e3:decide (0≤q)=false:=by simpa using hq0
        clear hq
        go_wp2
        go_roundw
        case rel=> exact⟨j+1,by omega,by go_num,hab1,by rw [HS.out,E1.out,E2.out];exact how1⟩
        case measure=> simp [intOf];omega
    ·obtain rfl:j=n:=by omega
     have hstep:=Ag8 (wh:=wh) (many:=m) HT.out Hrl.out
     have HS:=Aa hstep
     clear hstep
     go_wp2
     go_roundw
     case rel=> exact⟨k+1,by omega,by go_num,hnx,by rw [←HS.out];exact how⟩
     case measure=> simp [intOf];omega
  ·obtain rfl:k=rs.length:=by omega
   go_wp2
   go_ret
   exact⟨_,rfl,hnx,by rw [←Ag6 wh m T Hlt.out.symm];exact how⟩
end Go.Proofs.YtbibeionenjmfaaGreatDoor
