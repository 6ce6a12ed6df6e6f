/- The state of BenchSays' walk: the bench, the two arrays, the act. -/
import Derived.Test.YtidhjpjeehoglaaBenchLaw
import Derived.Test.YtidhjpjeehoglaaActs
import Derived.Deep.DeepCutAuto
import Derived.Outline
import Derived.Deep.CutBlock
namespace Go.Proofs.Ytidhjpjeehoglaa
open Go.RowKit Go.ChangeShapes Go.WideShapes Go.ChangeAt

set_option maxHeartbeats 1000000 in
theorem seats_any (w : World) :
    Calls Try.prog 6 #[] w fun e w' => e = .returned (.bool true) ∧ Below w.heap.size w w' := by
  go_enter Try.func6, Try.ntmps6
  go_wp2_with fail
  refine (NewBench_ok 1 1 w (by decide) (by decide) (by decide) (by decide)).mono ?_
  rintro e w1 ⟨bb, lb, cap, rs, rfl, b1, hrs, bt⟩
  have HX := hide (Room_yes (i := 0) (row := [noSlot]) bt rfl)
  have HR := hide hrs
  have HB := hide bt
  clear bt hrs
  go_wp2_with fail
  refine HX.out.mono ?_
  rintro e w2 ⟨rfl, b2⟩
  clear HX
  rw [show roomV 0 [noSlot] = .tuple #[.agg #[.int .i64 ((0 : Nat) : Int), .int .i64 ((0 : Nat) : Int)], .nilIface] from rfl]
  have b12 := b1.trans (b2.mono b1.size)
  have HB2 := HB.out.below b2
  have HB3 := HB2.below (ba w2 (.cells #[.int .i64 ((0 : Nat) : Int), .int .i64 ((0 : Nat) : Int)] 38))
  obtain ⟨r, row, hr, hT, hrl, _, _⟩ := HB3.row (i := 0) (by rw [HR.out]; decide)
  cases hT
  have HP := hide (Put_yes (ta := 3) (tf := false) (tk := 0) (j := 0) HB3 hr rfl rfl rfl)
  have hbr := (HB3.lt0 hr).2
  clear hr hrl HB HB2 HB3 b1 b2
  go_wp2_with fail
  refine HP.out.mono ?_
  rintro e w3 ⟨rfl, k3, bt3⟩
  have k4 : Below w.heap.size w w3 := (b12.trans ((ba w2 _).mono b12.size)).trans (k3.below (B := w.heap.size) (fun q e => by omega) (by have := b12.size; simp; omega))
  have HR := hide (Runs_any 3 0 false bt3)
  rw [show runsT (3, false, 0) ((List.replicate 1 (List.replicate 1 noSlot)).set 0 ((List.replicate 1 noSlot).set 0 (true, 3, false, 0))) = true from by decide] at HR
  clear bt3 k3 b12 HP hbr
  go_wp2_with fail
  refine (same_nil 0 _).mono ?_
  rintro e w4 ⟨rfl, rfl⟩
  go_wp2_with fail
  refine (same_nil 0 _).mono ?_
  rintro e w4 ⟨rfl, rfl⟩
  go_wp2_with fail
  refine HR.out.mono ?_
  rintro e w5 ⟨rfl, b5⟩
  have b6 := k4.trans (b5.mono k4.size)
  clear HR b5 k4
  go_wp2
  go_ret
  exact ⟨rfl, b6⟩

/-- Where all lies. -/
structure Bad where
  base : Nat
  bb : Nat
  lb : Nat
  cap : Nat
  rs : List Nat
  ob : Nat
  ib : Nat
structure BS (w0 w : World) (A : Bad) (ws n : Nat) (O : List Bool) (I : List TaskV) : Prop where
  bt : BT w A.base A.bb A.lb A.cap n A.rs (tab O I ws n)
  bo : Bk w A.ob (O.map .bool)
  bi : Bk w A.ib (I.flatMap encT)
  bel : Below w0.heap.size w0 w
  lo : O.length = 12
  li : I.length = 12
  lr : A.rs.length = ws
  h0 : w0.heap.size ≤ A.base
  hb : A.bb < A.ob ∧ A.lb < A.ob ∧ ∀ (i : Nat) r, A.rs[i]? = some r → r < A.ob
  ho : A.ob < A.ib
  jobs : ∀ t ∈ I, 0 ≤ t.1
theorem BS.below {w0 w w' : World} {A : Bad} {ws n : Nat} {O : List Bool} {I : List TaskV} (h : BS w0 w A ws n O I) (k : Below w.heap.size w w') : BS w0 w' A ws n O I :=
  ⟨h.bt.below k, h.bo.later k, h.bi.later k, h.bel.trans (k.mono h.bel.size), h.lo, h.li, h.lr, h.h0, h.hb, h.ho, h.jobs⟩
theorem BS.dims {w0 w : World} {A : Bad} {ws n : Nat} {O : List Bool} {I : List TaskV} (h : BS w0 w A ws n O I) : ws ≤ 4 ∧ n ≤ 3 ∧ 1 ≤ ws ∧ 1 ≤ n := by
  have := h.bt.lr; have := h.bt.ln; have := h.bt.l1; have := h.bt.l2; have := h.lr; omega
theorem BS.pos {w0 w : World} {A : Bad} {ws n : Nat} {O : List Bool} {I : List TaskV} (h : BS w0 w A ws n O I) {a b : Nat} (ha : a < ws) (hb : b < n) : a * n + b < 12 := by
  obtain ⟨h1, h2, _, _⟩ := h.dims
  have : a * n ≤ 3 * n := Nat.mul_le_mul_right n (by omega)
  omega
/-- what an act may write: the rows, the two arrays -/
def Kw (A : Bad) (w w' : World) : Prop := KeptBut (fun q => q < A.ib + 1 ∧ A.base ≤ q) w w'
theorem BS.row {w0 w : World} {A : Bad} {ws n : Nat} {O : List Bool} {I : List TaskV} (h : BS w0 w A ws n O I) {a : Nat} (ha : a < ws) : ∃ r, A.rs[a]? = some r ∧ A.base ≤ r ∧ r < A.ob := by
  have hl : a < A.rs.length := by rw [h.lr]; exact ha
  exact ⟨A.rs[a], List.getElem?_eq_getElem hl, (h.bt.lt0 (List.getElem?_eq_getElem hl)).2, h.hb.2.2 a _ (List.getElem?_eq_getElem hl)⟩
/-- put: the bench first, then the two arrays -/
theorem BS.put {w0 w w1 : World} {A : Bad} {ws n : Nat} {O : List Bool} {I : List TaskV} (h : BS w0 w A ws n O I) {a b r : Nat} {t : TaskV} (ha : a < ws) (hb : b < n) (hr : A.rs[a]? = some r) (k : KeptBut (fun q => q = r) w w1)
    (hbt : BT w1 A.base A.bb A.lb A.cap n A.rs ((tab O I ws n).set a (((List.range n).map fun j => slotOf O I (a * n + j)).set b (true, t)))) (ht : 0 ≤ t.1) :
    BS w0 (setT (w1.setCell ⟨A.ob, a * n + b, none⟩ (.bool true)) A.ib (a * n + b) t) A ws n (O.set (a * n + b) true) (I.set (a * n + b) t) := by
  have hp := h.pos ha hb
  obtain ⟨s1, s2⟩ := slot_put (O := O) (I := I) t (by rw [h.lo]; exact hp) (by rw [h.li]; exact hp)
  have hT := tab_set ha hb s2
  rw [s1] at hT
  rw [hT] at hbt
  have hro := h.hb.2.2 a r hr
  have hbb := h.hb.1
  have hll := h.hb.2.1
  have hho := h.ho
  have hbr := (h.bt.lt0 hr).2
  have bo1 := h.bo.kept k (by omega)
  have bi1 := h.bi.kept k (by omega)
  have ks := setT_kept (w1.setCell ⟨A.ob, a * n + b, none⟩ (.bool true)) A.ib (a * n + b) t
  have ko := (KeptBut.refl (fun q => q = A.ob) w1).setCell (p := ⟨A.ob, a * n + b, none⟩) rfl (.bool true)
  refine ⟨?_, ?_, ?_, ?_, by rw [List.length_set]; exact h.lo, by rw [List.length_set]; exact h.li, h.lr, h.h0, h.hb, h.ho, fun x hx => ?_⟩
  · exact (hbt.kept ko (by omega) (by omega) (fun i r hr => by have := h.hb.2.2 i r hr; omega)).kept ks (by omega) (by omega) (fun i r hr => by have := h.hb.2.2 i r hr; omega)
  · exact (boolSet bo1 (by rw [h.lo]; exact hp) true).kept ks (by omega)
  · exact taskSet (bi1.setO (p := ⟨A.ob, a * n + b, none⟩) (by show A.ob ≠ A.ib; omega) _) (by rw [h.li]; exact hp) t
  · have h0 := h.h0
    have hbo : A.base ≤ A.bb := h.bt.bt
    exact ((h.bel.trans (k.below (fun q e => by omega) h.bel.size)).trans (ko.below (fun q e => by omega) (by have := k.size; have := h.bel.size; omega))).trans (ks.below (fun q e => by omega) (by have := k.size; have := h.bel.size; have := ko.size; omega))
  · rcases List.mem_or_eq_of_mem_set hx with e | e
    · exact h.jobs x e
    · rw [e]; exact ht
theorem BS.free {w0 w w1 : World} {A : Bad} {ws n : Nat} {O : List Bool} {I : List TaskV} (h : BS w0 w A ws n O I) {a b r : Nat} (ha : a < ws) (hb : b < n) (hr : A.rs[a]? = some r) (k : KeptBut (fun q => q = r) w w1)
    (hbt : BT w1 A.base A.bb A.lb A.cap n A.rs ((tab O I ws n).set a (((List.range n).map fun j => slotOf O I (a * n + j)).set b (false, 0, false, 0)))) :
    BS w0 (w1.setCell ⟨A.ob, a * n + b, none⟩ (.bool false)) A ws n (O.set (a * n + b) false) I := by
  have hp := h.pos ha hb
  obtain ⟨s1, s2⟩ := slot_free (O := O) (I := I) (p := a * n + b) (by rw [h.lo]; exact hp)
  have hT := tab_set ha hb s2
  rw [s1] at hT
  rw [show ((false, 0, false, 0) : SlotV) = noSlot from rfl, hT] at hbt
  have hro := h.hb.2.2 a r hr
  have hbb := h.hb.1
  have hll := h.hb.2.1
  have hho := h.ho
  have hbr := (h.bt.lt0 hr).2
  have bo1 := h.bo.kept k (by omega)
  have bi1 := h.bi.kept k (by omega)
  have ko := (KeptBut.refl (fun q => q = A.ob) w1).setCell (p := ⟨A.ob, a * n + b, none⟩) rfl (.bool false)
  refine ⟨?_, ?_, ?_, ?_, by rw [List.length_set]; exact h.lo, h.li, h.lr, h.h0, h.hb, h.ho, h.jobs⟩
  · exact hbt.kept ko (by omega) (by omega) (fun i r hr => by have := h.hb.2.2 i r hr; omega)
  · exact boolSet bo1 (by rw [h.lo]; exact hp) false
  · exact bi1.setO (p := ⟨A.ob, a * n + b, none⟩) (by show A.ob ≠ A.ib; omega) _
  · have h0 := h.h0
    have hbo : A.base ≤ A.bb := h.bt.bt
    exact (h.bel.trans (k.below (fun q e => by omega) h.bel.size)).trans (ko.below (fun q e => by omega) (by have := k.size; have := h.bel.size; omega))

theorem tab_zero (ws n : Nat) : tab (List.replicate 12 false) (List.replicate 12 (0, false, 0)) ws n = List.replicate ws (List.replicate n noSlot) := by
  have : ∀ k, slotOf (List.replicate 12 false) (List.replicate 12 ((0, false, 0) : TaskV)) k = noSlot := by
    intro k
    refine slotOf_off ?_
    rw [List.getD_eq_getElem?_getD, List.getElem?_replicate]
    split <;> rfl
  unfold tab
  simp only [this]
  rw [List.map_const', List.length_range, List.map_const', List.length_range]
def wArr (w1 : World) : World := (w1.alloc (.cells #[.bool false, .bool false, .bool false, .bool false, .bool false, .bool false, .bool false, .bool false, .bool false, .bool false, .bool false, .bool false] 31)).alloc
  (.cells #[.int .i64 0, .bool false, .int .i64 0, .int .i64 0, .bool false, .int .i64 0, .int .i64 0, .bool false, .int .i64 0, .int .i64 0, .bool false, .int .i64 0, .int .i64 0, .bool false, .int .i64 0, .int .i64 0, .bool false, .int .i64 0, .int .i64 0, .bool false, .int .i64 0, .int .i64 0, .bool false, .int .i64 0, .int .i64 0, .bool false, .int .i64 0, .int .i64 0, .bool false, .int .i64 0, .int .i64 0, .bool false, .int .i64 0, .int .i64 0, .bool false, .int .i64 0] 34)
theorem BS_start {w w0 w1 : World} {bb lb cp m n : Nat} {rs : List Nat} (hb0 : Below w.heap.size w w0) (hb1 : Below w0.heap.size w0 w1) (hrs : rs.length = m) (h : BT w1 w0.heap.size bb lb cp n rs (List.replicate m (List.replicate n noSlot))) :
    BS w (wArr w1) ⟨w0.heap.size, bb, lb, cp, rs, w1.heap.size, w1.heap.size + 1⟩ m n (List.replicate 12 false) (List.replicate 12 (0, false, 0)) := by
  have hL := h.lts
  have b : Below w1.heap.size w1 (wArr w1) := ((Below.refl _ _).alloc (Nat.le_refl _) _).alloc (by simp) _
  refine ⟨?_, ?_, ?_, (hb0.trans (hb1.mono hb0.size)).trans (b.mono (by have := hb0.size; have := hb1.size; omega)), rfl, rfl, hrs, hb0.size, hL, Nat.lt_succ_self _, fun t ht => by rw [(List.mem_replicate.1 ht).2]; decide⟩
  · rw [tab_zero]; exact h.below b
  · exact (Bk.new rfl).alloc _
  · have := Bk.new (w := w1.alloc (.cells #[.bool false, .bool false, .bool false, .bool false, .bool false, .bool false, .bool false, .bool false, .bool false, .bool false, .bool false, .bool false] 31)) (cs := ((List.replicate 12 ((0, false, 0) : TaskV)).flatMap encT).toArray) (t := 34) rfl
    rw [heap_size] at this
    exact this
def taskOf (x : ActV) : TaskV := (x.c % 1024 / 2, x.fold, x.c % 1024)
theorem taskOf_pos (x : ActV) : 0 ≤ (taskOf x).1 := by show 0 ≤ x.c % 1024 / 2; omega
/-- what holds once the act is read -/
structure SA (w0 w : World) (A : Bad) (m n ab : Nat) (O : List Bool) (I : List TaskV) (x : ActV) : Prop where
  bs : BS w0 w A m n O I
  ba : Bk w ab (encA x)
  bp : Bk w (ab + 1) [.int .i64 x.a, .int .i64 x.b]
  bt : Bk w (ab + 1 + 1) (encT (taskOf x))
  hi : A.ib < ab
theorem SA_start {w0 wr : World} {A : Bad} {m n : Nat} {O : List Bool} {I : List TaskV} (h : BS w0 wr A m n O I) (x : ActV) :
    SA w0 (((wr.alloc (.cells #[.string x.kind, .int .i64 x.a, .int .i64 x.b, .int .i64 x.c, .bool x.fold, .string x.prog, .string x.inp] 36)).alloc (.cells #[.int .i64 x.a, .int .i64 x.b] 38)).alloc (.cells #[.int .i64 (x.c % 1024 / 2), .bool x.fold, .int .i64 (x.c % 1024)] 33)) A m n wr.heap.size O I x := by
  refine ⟨h.below ((((Below.refl _ _).alloc (Nat.le_refl _) _).alloc (by simp) _).alloc (by simp; omega) _), ((Bk.new rfl).alloc _).alloc _, ?_, ?_, h.bi.lt⟩
  · have := (Bk.new (w := wr.alloc (.cells #[.string x.kind, .int .i64 x.a, .int .i64 x.b, .int .i64 x.c, .bool x.fold, .string x.prog, .string x.inp] 36)) (cs := #[.int .i64 x.a, .int .i64 x.b]) (t := 38) rfl).alloc (.cells #[.int .i64 (x.c % 1024 / 2), .bool x.fold, .int .i64 (x.c % 1024)] 33)
    rw [heap_size] at this
    exact this
  · have := Bk.new (w := (wr.alloc (.cells #[.string x.kind, .int .i64 x.a, .int .i64 x.b, .int .i64 x.c, .bool x.fold, .string x.prog, .string x.inp] 36)).alloc (.cells #[.int .i64 x.a, .int .i64 x.b] 38)) (cs := #[.int .i64 (x.c % 1024 / 2), .bool x.fold, .int .i64 (x.c % 1024)]) (t := 33) rfl
    rw [heap_size, heap_size] at this
    exact this
end Go.Proofs.Ytidhjpjeehoglaa
