/- Package tasks: what is there to be done: each method's contract over the two lists of states. -/
import Derived.Test.YtllibbdgnjcchaaNums
import Derived.Test.YtllibbdgnjcchaaErr
import Derived.Deep.RegionHeld3
namespace Go.Proofs.Ytllibbdgnjcchaa
open Go.RowKit

theorem encInt2_len (x : Int × Int) : (encInt2 x).length = 2 := rfl
def cnt (l : List (Int × Int)) : Nat := (l.filter fun x => x.1 == 2).length
theorem cnt_le (l : List (Int × Int)) : cnt l ≤ l.length := List.length_filter_le _ _
theorem cnt_succ {l : List (Int × Int)} {k : Nat} {a b : Int} (h : l[k]? = some (a, b)) : cnt (l.take (k + 1)) = cnt (l.take k) + if a == 2 then 1 else 0 := by
  have hlt := (List.getElem?_eq_some_iff.1 h).1
  have hx : l[k] = (a, b) := (List.getElem?_eq_some_iff.1 h).2
  unfold cnt
  rw [List.take_succ_eq_append_getElem hlt, List.filter_append, List.length_append, hx]
  by_cases ha : (a == 2) = true <;> simp [ha]

set_option maxHeartbeats 400000 in
theorem count_any (ao : Option Addr) (cap : Nat) (l : List (Int × Int)) (w : World) (hl : l.length ≤ 1000) (hs : Sl 2 encInt2 w ao l) :
    Calls Try.prog 79 #[.slice ao l.length cap] w fun e w' => e = .returned (.int .i64 (cnt l : Nat)) ∧ Below w.heap.size w w' := by
  go_enter Try.func79, Try.ntmps79
  go_wp2
  go_loopw [3, 8] (fun n i wr => ∃ k : Nat, k ≤ l.length ∧ i = .int .i64 k ∧ n = .int .i64 (cnt (l.take k) : Nat) ∧ Below w.heap.size w wr) (fun _ i _ => l.length - (intOf i).toNat)
  case atStart => exact ⟨0, by omega, rfl, rfl, Below.refl _ _⟩
  case round =>
    obtain ⟨k, hk, rfl, rfl, hnx⟩ := hrel
    by_cases hlt : k < l.length
    · obtain ⟨b, off, st, wh, rfl, hbw, hlk, c0, c1⟩ := (hs.later hnx (Nat.le_refl _)).int2 hlt
      have hcs := cnt_succ hlk
      have hcl := cnt_le (l.take k)
      rw [List.length_take] at hcl
      have Hcs := hide hcs; clear hcs hlk
      generalize cnt (l.take k) = c at *
      have hc9 : (c : Int) ≤ 1000 := by omega
      by_cases h2 : (st == 2) = true
      · have e2 : Hid (cnt (l.take (k + 1)) = c + 1) := by show _ = _; rw [Hcs.out, if_pos h2]
        clear Hcs
        go_wp2
        go_roundw
        case rel => exact ⟨k+1, by omega, by go_num, by rw [e2.out]; go_num, hnx.alloc hnx.size _⟩
        case measure => simp [intOf]; omega
      · have h2' : (st == 2) = false := by simpa using h2
        have e2 : Hid (cnt (l.take (k + 1)) = c) := by show _ = _; rw [Hcs.out, if_neg h2]; omega
        clear Hcs h2
        go_wp2
        go_roundw
        case rel => exact ⟨k+1, by omega, by go_num, by rw [e2.out], hnx.alloc hnx.size _⟩
        case measure => simp [intOf]; omega
    · go_wp2
      go_ret
      rw [List.take_of_length_le (by omega)]
      exact ⟨rfl, hnx⟩

theorem waits_any (a b : Int) (w : World) :
    Calls Try.prog 78 #[.agg #[.int .i64 a, .int .i64 b]] w fun e w' => e = .returned (.bool (a == 0)) ∧ Below w.heap.size w w' := by
  go_enter Try.func78, Try.ntmps78
  go_wp2
  go_ret
  exact ⟨rfl, (Below.refl _ _).alloc (Nat.le_refl _) _⟩

/-- the first one that waits; -1: none does -/
def firstW (l : List (Int × Int)) : Int := match l.findIdx? fun x => x.1 == 0 with
  | some i => i
  | none => -1
theorem firstW_some {l : List (Int × Int)} {k : Nat} {b : Int} (h : l[k]? = some (0, b)) (hn : ∀ (i : Nat) x, i < k → l[i]? = some x → (x.1 == 0) = false) : firstW l = k := by
  unfold firstW
  have hlt := (List.getElem?_eq_some_iff.1 h).1
  have : l.findIdx? (fun x => x.1 == 0) = some k := by
    rw [List.findIdx?_eq_some_iff_getElem]
    refine ⟨hlt, by rw [(List.getElem?_eq_some_iff.1 h).2]; rfl, fun j hj => ?_⟩
    have := hn j l[j] hj (List.getElem?_eq_getElem _)
    simp [this]
  rw [this]
theorem firstW_none {l : List (Int × Int)} (hn : ∀ (i : Nat) x, i < l.length → l[i]? = some x → (x.1 == 0) = false) : firstW l = -1 := by
  unfold firstW
  have : l.findIdx? (fun x => x.1 == 0) = none := by
    rw [List.findIdx?_eq_none_iff]
    intro x hx
    obtain ⟨i, hi⟩ := List.getElem?_of_mem hx
    exact hn i x (List.getElem?_eq_some_iff.1 hi).1 hi
  rw [this]

set_option maxHeartbeats 400000 in
theorem IndexWaits_any (ao : Option Addr) (cap : Nat) (l : List (Int × Int)) (w : World) (hl : l.length ≤ 1000) (hs : Sl 2 encInt2 w ao l) :
    Calls Try.prog 77 #[.slice ao l.length cap, .func (.func 78) #[] #[]] w fun e w' => e = .returned (.int .i64 (firstW l)) ∧ Below w.heap.size w w' := by
  go_enter Try.func77, Try.ntmps77
  go_wp2
  go_loopw [8] (fun i wr => ∃ k : Nat, k ≤ l.length ∧ i = .int .i64 k ∧ (∀ (i : Nat) x, i < k → l[i]? = some x → (x.1 == 0) = false) ∧ Below w.heap.size w wr) (fun i _ => l.length - (intOf i).toNat)
  case atStart => exact ⟨0, by omega, rfl, fun i x h => absurd h (by omega), Below.refl _ _⟩
  case round =>
    obtain ⟨k, hk, rfl, hok, hnx⟩ := hrel
    have HOK := hide hok; clear hok
    by_cases hlt : k < l.length
    · obtain ⟨b, off, st, wh, rfl, hbw, hlk, c0, c1⟩ := (hs.later hnx (Nat.le_refl _)).int2 hlt
      have Hlk := hide hlk; clear hlk
      go_wp2_with (go_at_call 78; refine (waits_any _ _ _).mono ?_; rintro e w1 ⟨rfl, hb1⟩)
      · go_ret
        have h0 : st = 0 := by have h : (st == 0) = true := by assumption
                               simpa using h
        subst h0
        exact ⟨ret_i (firstW_some Hlk.out HOK.out), hnx.trans (hb1.mono hnx.size)⟩
      · go_roundw
        case rel => exact ⟨k+1, by omega, by go_num, fun i x hi hx => by
            by_cases e : i = k
            · subst e; rw [Hlk.out] at hx; cases hx; assumption
            · exact HOK.out i x (by omega) hx, hnx.trans (hb1.mono hnx.size)⟩
        case measure => simp [intOf]; omega
    · go_wp2
      go_ret
      exact ⟨ret_i (firstW_none fun i x hi => HOK.out i x (by omega)), hnx⟩

/-- A job's tasks in memory: at tb; the parts' row pb, the slices' row sb. -/
structure RT (w : World) (base tb pb sb : Nat) (ps ss : List (Int × Int)) : Prop where
  c0 : w.cell? ⟨tb, 0, none⟩ = some (.slice (some ⟨pb, 0, none⟩) ps.length ps.length)
  c1 : w.cell? ⟨tb, 1, none⟩ = some (.slice (some ⟨sb, 0, none⟩) ss.length ss.length)
  op : Own 2 encInt2 118 w base (.slice (some ⟨pb, 0, none⟩) ps.length ps.length) ps
  os : Own 2 encInt2 118 w base (.slice (some ⟨sb, 0, none⟩) ss.length ss.length) ss
  bt : base ≤ tb
  d1 : tb ≠ pb
  d2 : tb ≠ sb
  d3 : pb ≠ sb
  lp : ps.length ≤ 60
  ls : ss.length ≤ 4
  l1 : 1 ≤ ss.length
theorem RT.kept {S : Nat → Prop} {w w' : World} {base tb pb sb : Nat} {ps ss : List (Int × Int)} (h : RT w base tb pb sb ps ss) (k : KeptBut S w w') (h1 : ¬ S tb) (h2 : ¬ S pb) (h3 : ¬ S sb) : RT w' base tb pb sb ps ss :=
  ⟨k.cell h.c0 h1, k.cell h.c1 h1, k.own h.op (fun _ e => by cases e; exact h2), k.own h.os (fun _ e => by cases e; exact h3), h.bt, h.d1, h.d2, h.d3, h.lp, h.ls, h.l1⟩
theorem RT.below {w w' : World} {base tb pb sb : Nat} {ps ss : List (Int × Int)} (h : RT w base tb pb sb ps ss) (k : Below w.heap.size w w') : RT w' base tb pb sb ps ss :=
  h.kept (S := fun _ => False) (KeptBut.of_below k (Nat.le_refl _)) id id id
theorem RT.sp {w : World} {base tb pb sb : Nat} {ps ss : List (Int × Int)} (h : RT w base tb pb sb ps ss) : Sl 2 encInt2 w (some ⟨pb, 0, none⟩) ps := h.op.sl encInt2_len
theorem RT.ss {w : World} {base tb pb sb : Nat} {ps ss : List (Int × Int)} (h : RT w base tb pb sb ps ss) : Sl 2 encInt2 w (some ⟨sb, 0, none⟩) ss := h.os.sl encInt2_len

def blkOf (fold : Bool) (pb sb : Nat) : Nat := if fold then sb else pb
def lstOf (fold : Bool) (ps ss : List (Int × Int)) : List (Int × Int) := if fold then ss else ps
/-- where task i lies -/
def atOf (fold : Bool) (i : Int) (pb sb : Nat) (ps ss : List (Int × Int)) : Value :=
  if 0 ≤ i ∧ i < (lstOf fold ps ss).length then .pointer (some ⟨blkOf fold pb sb, i.toNat * 2, none⟩) else .pointer none

set_option maxHeartbeats 400000 in
theorem at_any (fold : Bool) (i : Int) {w : World} {base tb pb sb : Nat} {ps ss : List (Int × Int)} (h : RT w base tb pb sb ps ss) :
    Calls Try.prog 63 #[.pointer (some ⟨tb, 0, none⟩), .bool fold, .int .i64 i] w fun e w' => e = .returned (atOf fold i pb sb ps ss) ∧ w = w' := by
  have c0 := h.c0
  have c1 := h.c1
  have hlp := h.lp
  have hls := h.ls
  by_cases hi : 0 ≤ i ∧ i < (lstOf fold ps ss).length
  · have hr : atOf fold i pb sb ps ss = .pointer (some ⟨blkOf fold pb sb, i.toNat * 2, none⟩) := if_pos hi
    rw [hr]
    obtain ⟨h1, h2⟩ := hi
    clear hr h
    cases fold
    · have h2' : i < (ps.length : Int) := h2
      show Calls _ _ _ _ fun e w' => e = .returned (.pointer (some ⟨pb, i.toNat * 2, none⟩)) ∧ w = w'
      clear h2
      obtain ⟨k, rfl⟩ := Int.eq_ofNat_of_zero_le h1
      rw [Int.toNat_natCast]
      have e2 : decide (ps.length ≤ k) = false := by simp; omega
      go_enter Try.func63, Try.ntmps63
      go_wp2
      go_ret
      exact ⟨rfl, rfl⟩
    · have h2' : i < (ss.length : Int) := h2
      show Calls _ _ _ _ fun e w' => e = .returned (.pointer (some ⟨sb, i.toNat * 2, none⟩)) ∧ w = w'
      clear h2
      obtain ⟨k, rfl⟩ := Int.eq_ofNat_of_zero_le h1
      rw [Int.toNat_natCast]
      have e2 : decide (ss.length ≤ k) = false := by simp; omega
      go_enter Try.func63, Try.ntmps63
      go_wp2
      go_ret
      exact ⟨rfl, rfl⟩
  · have hr : atOf fold i pb sb ps ss = .pointer none := if_neg hi
    rw [hr]
    clear hr h
    cases fold
    · have h2 : ¬ (0 ≤ i ∧ i < (ps.length : Int)) := hi
      clear hi
      by_cases h0 : i < 0
      · have e1 : decide (i < 0) = true := by simpa using h0
        go_enter Try.func63, Try.ntmps63
        go_wp2
        go_ret
        exact ⟨rfl, rfl⟩
      · have e1 : decide (i < 0) = false := by simpa using h0
        have e2 : decide ((ps.length : Int) ≤ i) = true := by simp; omega
        go_enter Try.func63, Try.ntmps63
        go_wp2
        go_ret
        exact ⟨rfl, rfl⟩
    · have h2 : ¬ (0 ≤ i ∧ i < (ss.length : Int)) := hi
      clear hi
      by_cases h0 : i < 0
      · have e1 : decide (i < 0) = true := by simpa using h0
        go_enter Try.func63, Try.ntmps63
        go_wp2
        go_ret
        exact ⟨rfl, rfl⟩
      · have e1 : decide (i < 0) = false := by simpa using h0
        have e2 : decide ((ss.length : Int) ≤ i) = true := by simp; omega
        go_enter Try.func63, Try.ntmps63
        go_wp2
        go_ret
        exact ⟨rfl, rfl⟩

def allDone (l : List (Int × Int)) : Bool := decide (cnt l = l.length)
set_option maxHeartbeats 400000 in
theorem Mapped_any {w : World} {base tb pb sb : Nat} {ps ss : List (Int × Int)} (h : RT w base tb pb sb ps ss) :
    Calls Try.prog 64 #[.pointer (some ⟨tb, 0, none⟩)] w fun e w' => e = .returned (.bool (allDone ps)) ∧ Below w.heap.size w w' := by
  have c0 := h.c0
  have hcl := cnt_le ps
  have hlp := h.lp
  have hls := h.ls
  have hsl := h.sp
  go_enter Try.func64, Try.ntmps64
  go_wp2
  go_region_held3 (fun w' => w'.cell? ⟨tb, 0, none⟩ = some (.slice (some ⟨pb, 0, none⟩) ps.length ps.length) ∧ Sl 2 encInt2 w' (some ⟨pb, 0, none⟩) ps ∧ Below w.heap.size w w')
    (first | (go_split_ands; exact ⟨by simpa using c0, hsl, (Below.refl _ _).drew⟩) | (go_split_ands; exact ⟨cell_later hb1 (by assumption), Sl.later (by assumption) hb1 (Nat.le_refl _), Below.trans (by assumption) (hb1.mono (Below.size (by assumption)))⟩))
    ((go_at_call 79; refine (count_any _ _ ps _ (by omega) (And.left (And.right (by assumption)))).mono ?_; rintro e w1 ⟨rfl, hb1⟩))
  go_wp2
  go_ret
  exact ⟨ret_b (by unfold allDone; rw [Bool.eq_iff_iff]; simp; omega), And.right (And.right (by assumption))⟩

set_option maxHeartbeats 400000 in
theorem Out_any {w : World} {base tb pb sb : Nat} {ps ss : List (Int × Int)} (h : RT w base tb pb sb ps ss) :
    Calls Try.prog 66 #[.pointer (some ⟨tb, 0, none⟩)] w fun e w' => e = .returned (.bool (allDone ss)) ∧ Below w.heap.size w w' := by
  have c1 := h.c1
  have hcl := cnt_le ss
  have hlp := h.lp
  have hls := h.ls
  have hsl := h.ss
  go_enter Try.func66, Try.ntmps66
  go_wp2
  go_region_held3 (fun w' => w'.cell? ⟨tb, 1, none⟩ = some (.slice (some ⟨sb, 0, none⟩) ss.length ss.length) ∧ Sl 2 encInt2 w' (some ⟨sb, 0, none⟩) ss ∧ Below w.heap.size w w')
    (first | (go_split_ands; exact ⟨by simpa using c1, hsl, (Below.refl _ _).drew⟩) | (go_split_ands; exact ⟨cell_later hb1 (by assumption), Sl.later (by assumption) hb1 (Nat.le_refl _), Below.trans (by assumption) (hb1.mono (Below.size (by assumption)))⟩))
    ((go_at_call 79; refine (count_any _ _ ss _ (by omega) (And.left (And.right (by assumption)))).mono ?_; rintro e w1 ⟨rfl, hb1⟩))
  go_wp2
  go_ret
  exact ⟨ret_b (by unfold allDone; rw [Bool.eq_iff_iff]; simp; omega), And.right (And.right (by assumption))⟩

set_option maxHeartbeats 400000 in
theorem Count_any {w : World} {base tb pb sb : Nat} {ps ss : List (Int × Int)} (h : RT w base tb pb sb ps ss) :
    Calls Try.prog 68 #[.pointer (some ⟨tb, 0, none⟩)] w fun e w' => e = .returned (.tuple #[.int .i64 (cnt ps : Nat), .int .i64 (cnt ss : Nat)]) ∧ Below w.heap.size w w' := by
  have c0 := h.c0
  have c1 := h.c1
  have hlp := h.lp
  have hls := h.ls
  have hsl := h.sp
  have hsl2 := h.ss
  go_enter Try.func68, Try.ntmps68
  go_wp2
  go_region_held3 (fun w' => w'.cell? ⟨tb, 0, none⟩ = some (.slice (some ⟨pb, 0, none⟩) ps.length ps.length) ∧ w'.cell? ⟨tb, 1, none⟩ = some (.slice (some ⟨sb, 0, none⟩) ss.length ss.length) ∧ Sl 2 encInt2 w' (some ⟨pb, 0, none⟩) ps ∧ Sl 2 encInt2 w' (some ⟨sb, 0, none⟩) ss ∧ Below w.heap.size w w')
    (first | (go_split_ands; exact ⟨by simpa using c0, by simpa using c1, hsl, hsl2, (Below.refl _ _).drew⟩) | (go_split_ands; exact ⟨cell_later hb1 (by assumption), cell_later hb1 (by assumption), Sl.later (l := ps) (by assumption) hb1 (Nat.le_refl _), Sl.later (l := ss) (by assumption) hb1 (Nat.le_refl _), Below.trans (by assumption) (hb1.mono (Below.size (by assumption)))⟩))
    ((go_at_call 79; refine (count_any _ _ _ _ (by omega) (by first | exact (And.left (And.right (And.right (by assumption)))) | exact (And.left (And.right (And.right (And.right (by assumption)))))) ).mono ?_; rintro e w1 ⟨rfl, hb1⟩))
  all_goals (try go_wp2)
  go_ret2
  exact ⟨rfl, And.right (And.right (And.right (And.right (by assumption))))⟩

theorem RT.elem {w : World} {base tb pb sb : Nat} {ps ss : List (Int × Int)} (h : RT w base tb pb sb ps ss) {fold : Bool} {k : Nat} {a b : Int} (hk : (lstOf fold ps ss)[k]? = some (a, b)) :
    w.cell? ⟨blkOf fold pb sb, k * 2, none⟩ = some (.int .i64 a) ∧ w.cell? ⟨blkOf fold pb sb, k * 2 + 1, none⟩ = some (.int .i64 b) ∧ (∀ j, w.frozen? ⟨blkOf fold pb sb, j, none⟩ = false) ∧ k ≤ 60 := by
  cases fold
  · have hk' : ps[k]? = some (a, b) := hk
    exact ⟨h.op.cellAt (j := 0) encInt2_len hk' rfl, h.op.cellAt (j := 1) encInt2_len hk' rfl, fun j => h.op.frozenAt j, by have := (List.getElem?_eq_some_iff.1 hk').1; have := h.lp; omega⟩
  · have hk' : ss[k]? = some (a, b) := hk
    exact ⟨h.os.cellAt (j := 0) encInt2_len hk' rfl, h.os.cellAt (j := 1) encInt2_len hk' rfl, fun j => h.os.frozenAt j, by have := (List.getElem?_eq_some_iff.1 hk').1; have := h.ls; omega⟩
theorem atOf_yes {fold : Bool} {k pb sb : Nat} {ps ss : List (Int × Int)} {x} (hk : (lstOf fold ps ss)[k]? = some x) : atOf fold (k : Int) pb sb ps ss = .pointer (some ⟨blkOf fold pb sb, k * 2, none⟩) := by
  unfold atOf
  have := (List.getElem?_eq_some_iff.1 hk).1
  rw [if_pos ⟨by omega, by omega⟩, Int.toNat_natCast]
theorem atOf_no {fold : Bool} {i : Int} {pb sb : Nat} {ps ss : List (Int × Int)} (h : ¬ (0 ≤ i ∧ i < (lstOf fold ps ss).length)) : atOf fold i pb sb ps ss = .pointer none := if_neg h

def setP (fold : Bool) (ps : List (Int × Int)) (k : Nat) (x : Int × Int) : List (Int × Int) := if fold then ps else ps.set k x
def setS (fold : Bool) (ss : List (Int × Int)) (k : Nat) (x : Int × Int) : List (Int × Int) := if fold then ss.set k x else ss

theorem RT.set1 {w : World} {base tb pb sb : Nat} {ps ss : List (Int × Int)} (h : RT w base tb pb sb ps ss) {fold : Bool} {k : Nat} {a b v : Int} (hk : (lstOf fold ps ss)[k]? = some (a, b)) :
    RT (w.setCell ⟨blkOf fold pb sb, k * 2, none⟩ (.int .i64 v)) base tb pb sb (setP fold ps k (v, b)) (setS fold ss k (v, b)) := by
  have d1 := h.d1; have d2 := h.d2; have d3 := h.d3
  cases fold
  · show RT (w.setCell ⟨pb, k * 2, none⟩ (.int .i64 v)) base tb pb sb (ps.set k (v, b)) ss
    have hk' : ps[k]? = some (a, b) := hk
    exact ⟨by rw [List.length_set]; exact cellSetO h.c0 (fun e => d1 (congrArg Addr.block e).symm), cellSetO h.c1 (fun e => d1 (congrArg Addr.block e).symm),
      by rw [List.length_set]; exact h.op.set' (j := 0) (y := (v, b)) encInt2_len hk' (by decide) rfl, h.os.setOther (by intro e; cases e; exact d3 rfl) _, h.bt, d1, d2, d3, by rw [List.length_set]; exact h.lp, h.ls, h.l1⟩
  · show RT (w.setCell ⟨sb, k * 2, none⟩ (.int .i64 v)) base tb pb sb ps (ss.set k (v, b))
    have hk' : ss[k]? = some (a, b) := hk
    exact ⟨cellSetO h.c0 (fun e => d2 (congrArg Addr.block e).symm), by rw [List.length_set]; exact cellSetO h.c1 (fun e => d2 (congrArg Addr.block e).symm),
      h.op.setOther (by intro e; cases e; exact d3 rfl) _, by rw [List.length_set]; exact h.os.set' (j := 0) (y := (v, b)) encInt2_len hk' (by decide) rfl, h.bt, d1, d2, d3, h.lp, by rw [List.length_set]; exact h.ls, by rw [List.length_set]; exact h.l1⟩
theorem RT.set2 {w : World} {base tb pb sb : Nat} {ps ss : List (Int × Int)} (h : RT w base tb pb sb ps ss) {fold : Bool} {k : Nat} {a b v : Int} (hk : (lstOf fold ps ss)[k]? = some (a, b)) :
    RT (w.setCell ⟨blkOf fold pb sb, k * 2 + 1, none⟩ (.int .i64 v)) base tb pb sb (setP fold ps k (a, v)) (setS fold ss k (a, v)) := by
  have d1 := h.d1; have d2 := h.d2; have d3 := h.d3
  cases fold
  · show RT (w.setCell ⟨pb, k * 2 + 1, none⟩ (.int .i64 v)) base tb pb sb (ps.set k (a, v)) ss
    have hk' : ps[k]? = some (a, b) := hk
    exact ⟨by rw [List.length_set]; exact cellSetO h.c0 (fun e => d1 (congrArg Addr.block e).symm), cellSetO h.c1 (fun e => d1 (congrArg Addr.block e).symm),
      by rw [List.length_set]; exact h.op.set' (j := 1) (y := (a, v)) encInt2_len hk' (by decide) rfl, h.os.setOther (by intro e; cases e; exact d3 rfl) _, h.bt, d1, d2, d3, by rw [List.length_set]; exact h.lp, h.ls, h.l1⟩
  · show RT (w.setCell ⟨sb, k * 2 + 1, none⟩ (.int .i64 v)) base tb pb sb ps (ss.set k (a, v))
    have hk' : ss[k]? = some (a, b) := hk
    exact ⟨cellSetO h.c0 (fun e => d2 (congrArg Addr.block e).symm), by rw [List.length_set]; exact cellSetO h.c1 (fun e => d2 (congrArg Addr.block e).symm),
      h.op.setOther (by intro e; cases e; exact d3 rfl) _, by rw [List.length_set]; exact h.os.set' (j := 1) (y := (a, v)) encInt2_len hk' (by decide) rfl, h.bt, d1, d2, d3, h.lp, by rw [List.length_set]; exact h.ls, by rw [List.length_set]; exact h.l1⟩
theorem lst_set {fold : Bool} {ps ss : List (Int × Int)} {k : Nat} {x y : Int × Int} (hk : (lstOf fold ps ss)[k]? = some x) : (lstOf fold (setP fold ps k y) (setS fold ss k y))[k]? = some y := by
  have := (List.getElem?_eq_some_iff.1 hk).1
  cases fold <;> exact List.getElem?_set_self this
theorem set_set {fold : Bool} {ps : List (Int × Int)} {k : Nat} {x y : Int × Int} : setP fold (setP fold ps k x) k y = setP fold ps k y ∧ setS fold (setS fold ps k x) k y = setS fold ps k y := by
  cases fold <;> simp [setP, setS, List.set_set]

theorem State_no {fold : Bool} {i : Int} {w : World} {base tb pb sb : Nat} {ps ss : List (Int × Int)} (h : RT w base tb pb sb ps ss) (hi : ¬ (0 ≤ i ∧ i < (lstOf fold ps ss).length)) :
    Calls Try.prog 67 #[.pointer (some ⟨tb, 0, none⟩), .bool fold, .int .i64 i] w fun e w' => e = .returned (.tuple #[.int .i64 0, errV 5]) ∧ w = w' := by
  rw [errV_pos (by decide)]
  go_enter Try.func67, Try.ntmps67
  go_wp2_with fail
  refine (at_any fold i h).mono ?_
  rintro e w1 ⟨rfl, rfl⟩
  rw [atOf_no hi]
  go_wp2
  go_ret2
  exact ⟨rfl, rfl⟩
theorem State_yes {fold : Bool} {k : Nat} {a b : Int} {w : World} {base tb pb sb : Nat} {ps ss : List (Int × Int)} (h : RT w base tb pb sb ps ss) (hk : (lstOf fold ps ss)[k]? = some (a, b)) :
    Calls Try.prog 67 #[.pointer (some ⟨tb, 0, none⟩), .bool fold, .int .i64 k] w fun e w' => e = .returned (.tuple #[.int .i64 a, .nilIface]) ∧ w = w' := by
  obtain ⟨d0, d1, dz, _⟩ := h.elem hk
  go_enter Try.func67, Try.ntmps67
  go_wp2_with fail
  refine (at_any fold k h).mono ?_
  rintro e w1 ⟨rfl, rfl⟩
  rw [atOf_yes hk]
  clear h hk
  generalize blkOf fold pb sb = bb at *
  go_wp2
  go_ret2
  exact ⟨rfl, rfl⟩
theorem Wait_no {fold : Bool} {i : Int} {w : World} {base tb pb sb : Nat} {ps ss : List (Int × Int)} (h : RT w base tb pb sb ps ss) (hi : ¬ (0 ≤ i ∧ i < (lstOf fold ps ss).length)) :
    Calls Try.prog 42 #[.pointer (some ⟨tb, 0, none⟩), .bool fold, .int .i64 i] w fun e w' => e = .returned (errV 5) ∧ w = w' := by
  rw [errV_pos (by decide)]
  go_enter Try.func42, Try.ntmps42
  go_wp2_with fail
  refine (at_any fold i h).mono ?_
  rintro e w1 ⟨rfl, rfl⟩
  rw [atOf_no hi]
  go_wp2
  go_ret
  exact ⟨rfl, rfl⟩
theorem Wait_yes {fold : Bool} {k : Nat} {a b : Int} {w : World} {base tb pb sb : Nat} {ps ss : List (Int × Int)} (h : RT w base tb pb sb ps ss) (hk : (lstOf fold ps ss)[k]? = some (a, b)) :
    Calls Try.prog 42 #[.pointer (some ⟨tb, 0, none⟩), .bool fold, .int .i64 k] w fun e w' => e = .returned .nilIface ∧ KeptBut (fun q => q = blkOf fold pb sb) w w' ∧
      RT w' base tb pb sb (setP fold ps k (if a = 1 then 0 else a, b)) (setS fold ss k (if a = 1 then 0 else a, b)) := by
  obtain ⟨d0, d1, dz, _⟩ := h.elem hk
  have dz0 := dz (k * 2)
  have hset := h.set1 (v := 0) hk
  have hself : setP fold ps k (a, b) = ps ∧ setS fold ss k (a, b) = ss := by
    have h1 := (List.getElem?_eq_some_iff.1 hk)
    cases fold
    · exact ⟨by obtain ⟨_, h2⟩ := h1; show ps.set k (a, b) = ps; rw [← h2]; exact List.set_getElem_self _, rfl⟩
    · exact ⟨rfl, by obtain ⟨_, h2⟩ := h1; show ss.set k (a, b) = ss; rw [← h2]; exact List.set_getElem_self _⟩
  have H := hide h; have HS := hide hset; have HF := hide hself
  have hat := at_any fold k h
  rw [atOf_yes hk] at hat
  have HAT := hide hat
  clear h hset hself hk dz hat
  generalize blkOf fold pb sb = bb at *
  by_cases h1 : a = 1
  · rw [if_pos h1]
    have e1 : (a == 1) = true := by simpa using h1
    clear h1
    go_enter Try.func42, Try.ntmps42
    go_wp2_with fail
    refine HAT.out.mono ?_
    rintro e w1 ⟨rfl, rfl⟩
    go_wp2
    go_ret
    exact ⟨rfl, (KeptBut.refl (fun q => q = bb) w).setCell (p := ⟨bb, k * 2, none⟩) rfl _, HS.out⟩
  · rw [if_neg h1, HF.out.1, HF.out.2]
    have e1 : (a == 1) = false := by simpa using h1
    clear h1
    go_enter Try.func42, Try.ntmps42
    go_wp2_with fail
    refine HAT.out.mono ?_
    rintro e w1 ⟨rfl, rfl⟩
    go_wp2
    go_ret
    exact ⟨rfl, KeptBut.refl _ _, H.out⟩
end Go.Proofs.Ytllibbdgnjcchaa
