/- Package tasks, the rest: Begin, Finish, Next, New, Lose. -/
import Derived.Test.YtllibbdgnjcchaaTasks
namespace Go.Proofs.Ytllibbdgnjcchaa
open Go.RowKit

theorem Begin_no {fold : Bool} {i : Int} {w : World} {base tb pb sb : Nat} {ps ss : List (Int × Int)} (h : RT w base tb pb sb ps ss) (hi : ¬ (0 ≤ i ∧ i < (lstOf fold ps ss).length)) :
    Calls Try.prog 41 #[.pointer (some ⟨tb, 0, none⟩), .bool fold, .int .i64 i] w fun e w' => e = .returned (errV 5) ∧ w = w' := by
  rw [errV_pos (by decide)]
  go_enter Try.func41, Try.ntmps41
  go_wp2_with fail
  refine (at_any fold i h).mono ?_
  rintro e w1 ⟨rfl, rfl⟩
  rw [atOf_no hi]
  go_wp2
  go_ret
  exact ⟨rfl, rfl⟩
/-- may task k be begun? -/
def mayBegin (fold : Bool) (a : Int) (ps : List (Int × Int)) : Bool := !(a == 2) && (!fold || allDone ps)
theorem Begin_not {fold : Bool} {k : Nat} {a b : Int} {w : World} {base tb pb sb : Nat} {ps ss : List (Int × Int)} (h : RT w base tb pb sb ps ss) (hk : (lstOf fold ps ss)[k]? = some (a, b)) (hm : mayBegin fold a ps = false) :
    Calls Try.prog 41 #[.pointer (some ⟨tb, 0, none⟩), .bool fold, .int .i64 k] w fun e w' => e = .returned (errV 7) ∧ Below w.heap.size w w' := by
  rw [errV_pos (by decide)]
  obtain ⟨d0, d1, dz, _⟩ := h.elem hk
  have hat := at_any fold k h
  rw [atOf_yes hk] at hat
  have HAT := hide hat
  have HM := hide (Mapped_any h)
  clear h hk dz hat
  generalize blkOf fold pb sb = bb at *
  by_cases h2 : (a == 2) = true
  · clear hm
    go_enter Try.func41, Try.ntmps41
    go_wp2_with fail
    refine HAT.out.mono ?_
    rintro e w1 ⟨rfl, rfl⟩
    go_wp2
    go_ret
    exact ⟨rfl, Below.refl _ _⟩
  · have h2' : (a == 2) = false := by simpa using h2
    have hf : fold = true ∧ allDone ps = false := by
      unfold mayBegin at hm; rw [h2'] at hm
      cases fold <;> simp_all
    obtain ⟨rfl, hd⟩ := hf
    have HD := hide hd; clear hd h2 hm
    go_enter Try.func41, Try.ntmps41
    go_wp2_with fail
    refine HAT.out.mono ?_
    rintro e w1 ⟨rfl, rfl⟩
    go_wp2_with fail
    refine HM.out.mono ?_
    rintro e w1 ⟨rfl, hb1⟩
    rw [HD.out]
    go_wp2
    go_ret
    exact ⟨rfl, hb1⟩
theorem Begin_yes {fold : Bool} {k : Nat} {a b : Int} {w : World} {base tb pb sb : Nat} {ps ss : List (Int × Int)} (h : RT w base tb pb sb ps ss) (hk : (lstOf fold ps ss)[k]? = some (a, b)) (hm : mayBegin fold a ps = true) :
    Calls Try.prog 41 #[.pointer (some ⟨tb, 0, none⟩), .bool fold, .int .i64 k] w fun e w' => e = .returned .nilIface ∧ KeptBut (fun q => q = blkOf fold pb sb) w w' ∧
      RT w' base tb pb sb (setP fold ps k (1, b)) (setS fold ss k (1, b)) := by
  obtain ⟨d0, d1, dz, _⟩ := h.elem hk
  have dz0 := dz (k * 2)
  have hat := at_any fold k h
  rw [atOf_yes hk] at hat
  have HAT := hide hat
  have HM := hide (Mapped_any h)
  have H := hide h; have HK := hide hk
  clear h hk dz hat
  have h2' : (a == 2) = false := by
    unfold mayBegin at hm
    cases h : (a == 2) <;> simp_all
  have hfd : fold = true → allDone ps = true := by
    intro hf; unfold mayBegin at hm; subst hf; simp_all
  clear hm
  cases fold
  · clear hfd
    have hS : Hid (RT (w.setCell ⟨pb, k * 2, none⟩ (.int .i64 1)) base tb pb sb (ps.set k (1, b)) ss) := H.out.set1 (fold := false) HK.out
    have d0' : w.cell? ⟨pb, k * 2, none⟩ = some (.int .i64 a) := d0
    have dz' : w.frozen? ⟨pb, k * 2, none⟩ = false := dz0
    have HAT' : Hid (Calls Try.prog 63 #[.pointer (some ⟨tb, 0, none⟩), .bool false, .int .i64 k] w fun e w' => e = .returned (.pointer (some ⟨pb, k * 2, none⟩)) ∧ w = w') := HAT
    clear d0 d1 dz0 HAT
    go_enter Try.func41, Try.ntmps41
    go_wp2_with fail
    refine HAT'.out.mono ?_
    rintro e w1 ⟨rfl, rfl⟩
    go_wp2
    go_ret
    exact ⟨rfl, (KeptBut.refl (fun q => q = pb) w).setCell (p := ⟨pb, k * 2, none⟩) rfl _, hS.out⟩
  · have HD := hide (hfd rfl); clear hfd
    have d0' : w.cell? ⟨sb, k * 2, none⟩ = some (.int .i64 a) := d0
    have dz' : w.frozen? ⟨sb, k * 2, none⟩ = false := dz0
    have HAT' : Hid (Calls Try.prog 63 #[.pointer (some ⟨tb, 0, none⟩), .bool true, .int .i64 k] w fun e w' => e = .returned (.pointer (some ⟨sb, k * 2, none⟩)) ∧ w = w') := HAT
    clear d0 d1 dz0 HAT
    go_enter Try.func41, Try.ntmps41
    go_wp2_with fail
    refine HAT'.out.mono ?_
    rintro e w1 ⟨rfl, rfl⟩
    go_wp2_with fail
    refine HM.out.mono ?_
    rintro e w1 ⟨rfl, hb1⟩
    rw [HD.out]
    have d2 : w1.cell? ⟨sb, k * 2, none⟩ = some (.int .i64 a) := cell_later hb1 d0'
    have dz2 : w1.frozen? ⟨sb, k * 2, none⟩ = false := by
      rw [World.frozen?_of_block (hb1.block sb (World.block_lt_of_cell? w _ d0'))]; exact dz'
    have hS : Hid (RT (w1.setCell ⟨sb, k * 2, none⟩ (.int .i64 1)) base tb pb sb ps (ss.set k (1, b))) := (H.out.below hb1).set1 (fold := true) HK.out
    clear d0' dz'
    go_wp2
    go_ret
    exact ⟨rfl, (KeptBut.of_below (S := fun q => q = sb) hb1 (Nat.le_refl _)).setCell (p := ⟨sb, k * 2, none⟩) rfl _, hS.out⟩

theorem Finish_no {fold : Bool} {i wk : Int} {w : World} {base tb pb sb : Nat} {ps ss : List (Int × Int)} (h : RT w base tb pb sb ps ss) (hi : ¬ (0 ≤ i ∧ i < (lstOf fold ps ss).length)) :
    Calls Try.prog 43 #[.pointer (some ⟨tb, 0, none⟩), .bool fold, .int .i64 i, .int .i64 wk] w fun e w' => e = .returned (.tuple #[.bool false, errV 5]) ∧ w = w' := by
  rw [errV_pos (by decide)]
  go_enter Try.func43, Try.ntmps43
  go_wp2_with fail
  refine (at_any fold i h).mono ?_
  rintro e w1 ⟨rfl, rfl⟩
  rw [atOf_no hi]
  go_wp2
  go_ret2
  exact ⟨rfl, rfl⟩
theorem Finish_done {fold : Bool} {k : Nat} {b wk : Int} {w : World} {base tb pb sb : Nat} {ps ss : List (Int × Int)} (h : RT w base tb pb sb ps ss) (hk : (lstOf fold ps ss)[k]? = some (2, b)) :
    Calls Try.prog 43 #[.pointer (some ⟨tb, 0, none⟩), .bool fold, .int .i64 k, .int .i64 wk] w fun e w' => e = .returned (.tuple #[.bool false, .nilIface]) ∧ w = w' := by
  obtain ⟨d0, d1, dz, _⟩ := h.elem hk
  have hat := at_any fold k h
  rw [atOf_yes hk] at hat
  have HAT := hide hat
  clear h hk dz hat
  generalize blkOf fold pb sb = bb at *
  go_enter Try.func43, Try.ntmps43
  go_wp2_with fail
  refine HAT.out.mono ?_
  rintro e w1 ⟨rfl, rfl⟩
  go_wp2
  go_ret2
  exact ⟨rfl, rfl⟩
theorem Finish_yes {fold : Bool} {k : Nat} {a b wk : Int} {w : World} {base tb pb sb : Nat} {ps ss : List (Int × Int)} (h : RT w base tb pb sb ps ss) (hk : (lstOf fold ps ss)[k]? = some (a, b)) (ha : ¬ a = 2) :
    Calls Try.prog 43 #[.pointer (some ⟨tb, 0, none⟩), .bool fold, .int .i64 k, .int .i64 wk] w fun e w' => e = .returned (.tuple #[.bool true, .nilIface]) ∧ KeptBut (fun q => q = blkOf fold pb sb) w w' ∧
      RT w' base tb pb sb (setP fold ps k (2, wk)) (setS fold ss k (2, wk)) := by
  obtain ⟨d0, d1, dz, _⟩ := h.elem hk
  have dz0 := dz (k * 2)
  have dz1 := dz (k * 2 + 1)
  have hset := (h.set1 (v := 2) hk).set2 (v := wk) (lst_set hk)
  rw [set_set.1, set_set.2] at hset
  have HS := hide hset
  have hat := at_any fold k h
  rw [atOf_yes hk] at hat
  have HAT := hide hat
  clear h hset hk dz hat
  generalize blkOf fold pb sb = bb at *
  have e1 : (a != 2) = true := by simpa using ha
  clear ha
  go_enter Try.func43, Try.ntmps43
  go_wp2_with fail
  refine HAT.out.mono ?_
  rintro e w1 ⟨rfl, rfl⟩
  go_wp2
  go_ret2
  exact ⟨rfl, ((KeptBut.refl (fun q => q = bb) w).setCell (p := ⟨bb, k * 2, none⟩) rfl _).setCell (p := ⟨bb, k * 2 + 1, none⟩) rfl _, HS.out⟩
end Go.Proofs.Ytllibbdgnjcchaa
