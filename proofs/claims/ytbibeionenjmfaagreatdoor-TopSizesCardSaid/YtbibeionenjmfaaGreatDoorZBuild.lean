/- A strings.Builder that a call makes itself: its methods at this program. -/
import Derived.Lib.Builder
import Derived.Test.YtbibeionenjmfaaGreatDoorZShelf
import Derived.Test.YtbibeionenjmfaaGreatDoorZOwn
set_option linter.unusedSimpArgs false
set_option linter.unusedVariables false
namespace Go.Proofs.YtbibeionenjmfaaGreatDoor
open Go.Shelf Go.RowKit
theorem Ajk:(Tryz.prog.info? 222).map (·.size)=some 2:=by kernel_rfl
theorem Aol:(Tryz.prog.info? 5).map (fun i=> (i.zero,i.size,i.bytes))=some (some (.int .u8 0),1,1):=by kernel_rfl
theorem Aom:liesAt Tryz.prog Tryz.prog.depth 222 (2 / Tryz.prog.cellsOf 222) 0 222 1=true:=by kernel_rfl
def Bd (w:World) (B b:Nat) (l:List UInt8):Prop:=Lib.IsBuilder 222 5 B b (Lib.byteCells l) w
set_option maxHeartbeats 1000000 in
set_option maxRecDepth 100000 in
theorem Ama (b:Nat) (w:World) (h0:w.cell? ⟨b,0,none⟩=some (.pointer (some ⟨b,0,none⟩))):
 Calls Tryz.prog 163 #[.pointer (some ⟨b,0,none⟩)] w fun e w'=> e= .returned (.tuple #[])∧w'=w:=by
 obtain⟨j,hj,_⟩:=Option.map_eq_some_iff.1 Ajk
 go_enter Tryz.func163,Tryz.ntmps163
 go_wp2
 rw [Lib.run_neq_ptr_same w _ Tryz.underlying219 hj]
 go_wp2
 go_end0
 exact⟨rfl,rfl⟩
set_option maxHeartbeats 1000000 in
set_option maxRecDepth 100000 in
theorem Ajl (b:Nat) (w:World) (h0:w.cell? ⟨b,0,none⟩=some (.pointer none)) (hsh:w.shape? b=some (222,2)) (hfz:w.frozen? ⟨b,0,none⟩=false):
 Calls Tryz.prog 163 #[.pointer (some ⟨b,0,none⟩)] w fun e w'=> e= .returned (.tuple #[])∧w'=w.setCell ⟨b,0,none⟩ (.pointer (some ⟨b,0,none⟩)):=by
 obtain⟨j,hj,hjs⟩:=Option.map_eq_some_iff.1 Ajk
 go_enter Tryz.func163,Tryz.ntmps163
 go_wp2
 rw [Lib.run_to_unsafe w ⟨b,0,none⟩ Tryz.underlying219 Tryz.underlying281 hj (by rw [hjs];decide) hsh (Nat.zero_lt_succ 1)]
 simp only [Result.andThen]
 rw [Oper.upon_value]
 go_wp2
 rw [run_callFunc_extern Tryz.func192 (by kernel_rfl) (by kernel_rfl) (by kernel_rfl) (e:=Extern.AbiNoEscape.same) (by kernel_rfl)]
 rw [Lib.run_noEscape]
 simp only [Result.andThen]
 rw [Oper.upon_value]
 go_wp2
 rw [Lib.run_from_unsafe w ⟨b,0,none⟩ Tryz.underlying281 Tryz.underlying219 hj hsh Aom]
 simp only [Result.andThen]
 rw [Oper.upon_value]
 go_wp2
 go_end0
 exact⟨rfl,rfl⟩
theorem Vq (B b:Nat) (bs:List Value) (w:World) (h:Lib.IsBuilder 222 5 B b bs w):
 Calls Tryz.prog 163 #[.pointer (some ⟨b,0,none⟩)] w fun e w'=> e= .returned (.tuple #[])∧(Lib.BuilderAt 222 5 B b (.pointer (some ⟨b,0,none⟩)) bs w'∧Below B w w'∧∀ q,q≠b→w'.heap[q]?=w.heap[q]?):=by
 rcases h with h | h
 ·refine(Ajl b w h.cell0 h.shape h.frozen0).mono ?_
  rintro e w' ⟨rfl,rfl⟩
  exact⟨rfl,h.used _,(Below.refl B w).setCell (p:=⟨b,0,none⟩) h.1 _,fun q hq=> Below.heap_setCell _ _ _ _ (fun e=> hq (by simp [e]))⟩
 ·refine(Ama b w h.cell0).mono ?_
  rintro e w' ⟨rfl,rfl⟩
  exact⟨rfl,h,Below.refl B _,fun _ _=> rfl⟩
set_option maxHeartbeats 2000000 in
set_option maxRecDepth 100000 in
theorem Vr (B b:Nat) (l:List UInt8) (s:ByteArray) (w:World) (h:Bd w B b l) (hlen:l.length+s.size≤140737488355328) (hBw:B≤w.heap.size):
 Calls Tryz.prog 126 #[.pointer (some ⟨b,0,none⟩), .string s] w fun e w'=> e= .returned (.tuple #[.int .i64 s.size, .nilIface])∧(Bd w' B b (l++s.data.toList)∧Below B w w'∧∀ (q:Nat) (x:Obj),w.heap[q]?=some x→q≠b→(∀ c fr,x≠ .cells c 5 fr)→w'.heap[q]?=some x):=by
 obtain⟨i0,hi,hz0,hz1,hz2⟩:=info_parts Aol
 unfold Bd at h
 generalize hbs:Lib.byteCells l=bs at h
 have hbl:bs.length=l.length:=by rw [←hbs,Lib.byteCells_length]
 rw [←hbl] at hlen
 clear hbl
 go_enter Tryz.func126,Tryz.ntmps126
 go_wp2_with (go_at_call 163;refine(Vq B b bs _ h).mono ?_)
 rintro e w1 ⟨rfl,h1,hb1,hkc⟩
 have HKC:=Lib.hid hkc
 clear hkc
 obtain⟨hB,v,hbk,hown,hne⟩:=h1
 have c0:w1.cell? ⟨b,0,none⟩=some (.pointer (some ⟨b,0,none⟩)):=by rw [Lib.cell_of_heap hbk];rfl
 have c1:w1.cell? ⟨b,1,none⟩=some v:=by rw [Lib.cell_of_heap hbk];rfl
 go_wp2_with (at_builtin;refine Lib.wpList_append_own_string _ rfl _ _ 220 9 rfl B 5 i0 Tryz.underlying220 Tryz.underlying9 hi hz0 hz1 hz2 _ _ _ rfl hown s rfl ?c3 ?c4 ?c5 ?_)
 case c3=> unfold maxLen;omega
 case c4=> omega
 case c5=> have:=hb1.size;omega
 intro v' w2 hown' hgrow _
 have hlt:b < w1.heap.size:=by
  rcases Nat.lt_or_ge b w1.heap.size with h' | h'
  ·exact h'
  ·simp [Array.getElem?_eq_none h'] at hbk
 have hb2:w2.heap[b]?=some (.cells #[.pointer (some ⟨b,0,none⟩),v] 222 (0,0)):=by
  rw [hgrow.block b hlt (fun e=> hne e.symm)]
  exact hbk
 have d0:w2.cell? ⟨b,0,none⟩=some (.pointer (some ⟨b,0,none⟩)):=by rw [Lib.cell_of_heap hb2];rfl
 have d1:w2.cell? ⟨b,1,none⟩=some v:=by rw [Lib.cell_of_heap hb2];rfl
 have f1:w2.frozen? ⟨b,1,none⟩=false:=Lib.frozen_of_heap hb2 1
 obtain⟨ao,n',cap,rfl⟩:∃ ao n' cap,v'= .slice ao n' cap:=by
  rcases hown'.2 with ⟨hv,_⟩ | ⟨g,cap,cur,hv,_⟩
  ·exact⟨_,_,_,hv⟩
  ·exact⟨_,_,_,hv⟩
 go_wp2
 go_ret2
 refine⟨rfl,?_,?_,?_⟩
 ·have hq:=Lib.BuilderAt.put (T:=222) (e:=5) hB hb2 (bs':=bs++Lib.strCells s) (by simpa [Lib.strCells_length] using hown') (by decide)
  rw [←hbs] at hq
  have e:Lib.byteCells (l++s.data.toList)=Lib.byteCells l++Lib.strCells s:=by simp [Lib.byteCells,Lib.strCells]
  unfold Bd
  rw [e]
  exact .inr hq
 ·exact(hb1.grown hgrow (by have:=hb1.size;omega) (fun k hk=> (hown.lt k hk).1)).setCell (p:=⟨b,1,none⟩) hB _
 ·intro q x hq hqb hqx
  rw [Below.heap_setCell _ _ _ _ (fun e=> hqb (by simp [e]))]
  have h1:=HKC.out q hqb
  have hlt1:q < w1.heap.size:=by
   have:=(Array.getElem?_eq_some_iff.1 (h1.trans hq)).1
   exact this
  rw [hgrow.block q hlt1 (fun e=> by
   rcases hown.2 with ⟨rfl,_⟩ | ⟨g,cap,cur,rfl,_,hg,_⟩
   ·cases e
   ·simp only [Value.ownBlock,Option.some.injEq] at e
    subst e
    rw [h1,hq] at hg
    simp only [Option.some.injEq] at hg
    exact hqx _ _ hg),h1,hq]
theorem Ag0 (B b:Nat) (l:List UInt8) (w:World) (h:Bd w B b l) (hBw:B≤w.heap.size):
 Calls Tryz.prog 127 #[.pointer (some ⟨b,0,none⟩)] w fun e w'=> e= .returned (.string (tx l))∧Below B w w':=by
 exact Tryz.Builder_String_any B b l w h hBw
theorem Aon (w:World):Bd (w.alloc (.cells #[.pointer none, .slice none 0 0] 222)) w.heap.size w.heap.size []:=Lib.fresh_isBuilder _ _ _
end Go.Proofs.YtbibeionenjmfaaGreatDoor
