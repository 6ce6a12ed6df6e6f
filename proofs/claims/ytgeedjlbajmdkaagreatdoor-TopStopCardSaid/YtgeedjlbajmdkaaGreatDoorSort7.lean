/- order.Sort: a copy, sorted. -/
import Derived.Test.YtgeedjlbajmdkaaGreatDoorSort6
import Derived.Test.YtgeedjlbajmdkaaGreatDoorOrder2
set_option linter.unusedSimpArgs false
set_option linter.unusedVariables false
namespace Go.Proofs.YtgeedjlbajmdkaaGreatDoor
open Go.RowKit

theorem insertion_nil (ao : Option Addr) (cap : Nat) (w : World) :
    Calls Tryz.prog 144 #[.slice ao 0 cap, .int .i64 0, .int .i64 0, .func (.func 104) #[] #[]] w fun e w' => e = .returned (.tuple #[]) ∧ w = w' := by
  go_enter Tryz.func144, Tryz.ntmps144
  go_wp2
  go_loopw [8] (fun p wr => p = .int .i64 1 ∧ w = wr) (fun _ _ => 0)
  case atStart => exact ⟨rfl, rfl⟩
  case round =>
    obtain ⟨rfl, rfl⟩ := hrel
    go_wp2
    go_end0
    exact ⟨rfl, rfl⟩
theorem stable_nil (ao : Option Addr) (cap : Nat) (w : World) :
    Calls Tryz.prog 124 #[.slice ao 0 cap, .int .i64 0, .func (.func 104) #[] #[]] w fun e w' => e = .returned (.tuple #[]) ∧ w = w' := by
  go_enter Tryz.func124, Tryz.ntmps124
  go_wp2
  go_loopw [7, 8] (fun p q wr => p = .int .i64 0 ∧ q = .int .i64 20 ∧ w = wr) (fun _ _ _ => 0)
  case atStart => exact ⟨rfl, rfl, rfl⟩
  case round =>
    obtain ⟨rfl, rfl, rfl⟩ := hrel
    go_wp2_with fail
    refine (insertion_nil ao cap w).mono ?_
    rintro e w1 ⟨rfl, rfl⟩
    go_wp2
    go_loopw [6] (fun p wr => p = .int .i64 20 ∧ w = wr) (fun _ _ => 0)
    case atStart => exact ⟨rfl, rfl⟩
    case round =>
      obtain ⟨rfl, rfl⟩ := hrel
      go_wp2
      go_end0
      exact ⟨rfl, rfl⟩
/-- a slice of the call's own, sorted in place -/
theorem SortStable_any (l : List Pr) (v : Value) {w : World} {base : Nat} (h : Own 2 encP 101 w base v l) (hn : l.length ≤ 1000000000) :
    Calls Tryz.prog 103 #[v, .func (.func 104) #[] #[]] w fun e w' => e = .returned (.tuple #[]) ∧ KeptBut (fun q => base ≤ q) w w' ∧ Own 2 encP 101 w' base v (srt l) := by
  rcases Nat.eq_zero_or_pos l.length with h0 | h0
  · obtain rfl := List.length_eq_zero_iff.1 h0
    obtain ⟨ao, cap, rfl⟩ := h.1
    have H := hide h
    clear h h0 hn
    go_enter Tryz.func103, Tryz.ntmps103
    go_wp2_with fail
    refine (stable_nil ao cap w).mono ?_
    rintro e w1 ⟨rfl, rfl⟩
    go_wp2
    go_end0
    exact ⟨rfl, KeptBut.refl _ _, H.out⟩
  · obtain ⟨g, cap, rfl, hb, _, _, _⟩ := h.addr h0
    have HC := hide (stable_any l.length cap g l h hn)
    clear h
    go_enter Tryz.func103, Tryz.ntmps103
    go_wp2_with fail
    refine HC.out.mono ?_
    rintro e w1 ⟨rfl, k1, o1⟩
    go_wp2
    go_end0
    exact ⟨rfl, k1.mono (fun q e => by omega), o1⟩
theorem Sort_any (ao : Option Addr) (cap : Nat) (l : List Pr) (w : World) (hl : l.length ≤ 1000000000) (hs : Sl 2 encP w ao l) :
    Calls Tryz.prog 67 #[.slice ao l.length cap] w fun e w' => ∃ v, e = .returned v ∧ Own 2 encP 101 w' w.heap.size v (srt l) ∧ Below w.heap.size w w' := by
  go_enter Tryz.func67, Tryz.ntmps67
  go_wp2_with fail
  refine (ClonePr_any ao cap l w hl hs).mono ?_
  rintro e w1 ⟨v, rfl, o1, b1⟩
  have HC := hide (SortStable_any l v o1 hl)
  clear o1
  go_wp2_with fail
  refine HC.out.mono ?_
  rintro e w2 ⟨rfl, k2, o2⟩
  have b2 := b1.trans (k2.below (B := w.heap.size) (fun q e => e) b1.size)
  clear HC
  go_wp2
  go_ret
  exact ⟨v, rfl, o2, b2⟩
end Go.Proofs.YtgeedjlbajmdkaaGreatDoor
