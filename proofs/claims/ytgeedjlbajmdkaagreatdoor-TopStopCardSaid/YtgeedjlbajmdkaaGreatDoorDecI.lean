/- The reference: a number's text. -/
import Derived.Test.YtgeedjlbajmdkaaGreatDoorPair3
set_option linter.unusedSimpArgs false
set_option linter.unusedVariables false
namespace Go.Proofs.YtgeedjlbajmdkaaGreatDoor
open Go.RowKit

theorem Decimal_any (v : Int) (w : World) (h0 : -9223372036854775808 ≤ v) (h1 : v ≤ 9223372036854775807) :
    Calls Tryz.prog 45 #[.int .i64 v] w fun e w' => e = .returned (.string (tx (Lib.itoa v))) ∧ Below w.heap.size w w' := by
  by_cases hm : v = -9223372036854775808
  · have HE : Hid (Lib.itoa v = min20) := by show _ = _; rw [hm, itoa_min]
    have e0 : decide (v < 0) = true := by rw [hm]; decide
    have e1 : (v == -9223372036854775808) = true := by rw [hm]; decide
    clear hm h0 h1
    go_enter Tryz.func45, Tryz.ntmps45
    go_wp2
    go_ret
    refine ⟨?_, Below.refl _ _⟩
    rw [HE.out]
    rfl
  by_cases hv : v < 0
  · obtain ⟨u, hu⟩ : ∃ u : Nat, -v = (u : Int) := ⟨v.natAbs, by omega⟩
    have HX := hide (Decimal_nat u u w (Nat.le_refl _) (by omega))
    have HE : Hid (Lib.itoa v = 45 :: Lib.decDigits u) := by
      show _ = _
      rw [show v = -(u : Int) by omega]
      exact Lib.itoa_neg u (by omega)
    have e0 : decide (v < 0) = true := by simp; omega
    have e1 : (v == -9223372036854775808) = false := by rw [beq_eq_false_iff_ne]; omega
    have hz : ¬ (9223372036854775807 < 1 + (tx (Lib.decDigits u)).size) := by
      have := dec_len_le (u := u) (by omega)
      rw [tx_size]; omega
    have hw : wrap64 (u : Int) = (u : Int) := wrap64_in (by omega) (by omega)
    clear hm hv h0 h1
    go_enter Tryz.func45, Tryz.ntmps45
    go_wp2_with fail
    refine HX.out.mono ?_
    rintro e w1 ⟨rfl, b1⟩
    have HB := hide b1
    clear b1 HX
    go_wp2
    go_ret
    refine ⟨?_, HB.out⟩
    rw [HE.out]
    show Ending.returned (.string (⟨#[45]⟩ ++ tx (Lib.decDigits u))) = _
    congr 2
  · obtain ⟨u, rfl⟩ : ∃ u : Nat, v = (u : Int) := ⟨v.toNat, by omega⟩
    rw [Lib.itoa_nonneg]
    exact Decimal_nat u u w (Nat.le_refl _) (by omega)
end Go.Proofs.YtgeedjlbajmdkaaGreatDoor
