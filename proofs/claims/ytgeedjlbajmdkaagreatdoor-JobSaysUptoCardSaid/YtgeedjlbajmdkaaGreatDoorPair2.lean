/- Pairs: Check, KeySum, SliceOf, number; what the readers' steps say (plain). -/
import Derived.Test.YtgeedjlbajmdkaaGreatDoorNamesM
import Derived.Test.YtgeedjlbajmdkaaGreatDoorBuild
import Derived.Test.YtgeedjlbajmdkaaGreatDoorPairSum
import Derived.Test.YtgeedjlbajmdkaaGreatDoorPairs
set_option linter.unusedSimpArgs false
set_option linter.unusedVariables false
namespace Go.Proofs.YtgeedjlbajmdkaaGreatDoor
open Go.RowKit

def numOk (l : List UInt8) : Bool := (numS l).isSome
theorem numOk_eq (l : List UInt8) : numOk l = (atoiOk l && decide (Lib.itoa (atoiV l) = l)) := by
  unfold numOk numS atoiOk atoiV
  cases h : Lib.atoiAll l
  · simp only [Bool.true_and]
    split <;> rename_i h2
    · rw [decide_eq_true h2]; rfl
    · rw [decide_eq_false h2]; rfl
  · rfl
  · rfl
theorem numOk_val {l : List UInt8} (h : numOk l = true) : numS l = some (atoiV l) := by
  have h2 := h
  rw [numOk_eq] at h2
  simp only [Bool.and_eq_true, decide_eq_true_eq] at h2
  unfold numOk at h
  obtain ⟨v, hv⟩ := Option.isSome_iff_exists.1 h
  rw [hv]
  unfold numS at hv
  unfold atoiV
  revert hv
  cases Lib.atoiAll l
  · intro hv
    simp only at hv ⊢
    split at hv
    · exact hv.symm
    · cases hv
  · intro hv; cases hv
  · intro hv; cases hv
theorem numOk_ref {l : List UInt8} : (refNum l).2 = numOk l := ref_fine l
theorem numOk_refv {l : List UInt8} (h : numOk l = true) : (refNum l).1 = atoiV l := by
  have := refNum_ok (numOk_val h)
  rw [this]
theorem atoiV_bd {l : List UInt8} : -9223372036854775808 ≤ atoiV l ∧ atoiV l ≤ 9223372036854775807 := by
  unfold atoiV
  cases h : Lib.atoiAll l
  · exact Lib.atoiAll_bounds h
  · exact ⟨show (-9223372036854775808 : Int) ≤ 0 by decide, show (0 : Int) ≤ 9223372036854775807 by decide⟩
  · exact Lib.atoiSat_bounds l
theorem numOk_bd {l : List UInt8} (h : numOk l = true) : -9223372036854775808 ≤ atoiV l ∧ atoiV l ≤ 9223372036854775807 := atoiV_bd
set_option maxRecDepth 100000 in
set_option maxHeartbeats 1000000 in
theorem number_any (s : ByteArray) (c : UInt8) (w : World) (hg : GW w) (hs : s.size ≤ 1000000) :
    Calls Tryz.prog 112 #[.string s, .string ⟨#[c]⟩] w fun e w' => e = .returned (.tuple #[.int .i64 (atoiV (cutAt c s.data.toList).1), .string (tx (cutAt c s.data.toList).2.1), .bool ((cutAt c s.data.toList).2.2 && numOk (cutAt c s.data.toList).1)]) ∧ Below w.heap.size w w' := by
  have HC := hide (Cut_any s c w hg.gm hs)
  have hl := (cutAt_len c s.data.toList).1
  rw [tl_len] at hl
  generalize cutAt c s.data.toList = q at *
  obtain ⟨A, B, ok⟩ := q
  dsimp only at HC hl ⊢
  have HG := hide hg
  clear hg
  go_enter Tryz.func112, Tryz.ntmps112
  go_wp2_with fail
  refine HC.out.mono ?_
  rintro e w1 ⟨rfl, b1⟩
  have HB1 := hide b1
  have HG1 := hide (HG.out.later b1 (Nat.le_refl _))
  have HA := hide (Atoi_any (tx A) w1 HG1.out (by rw [tx_size]; omega))
  rw [tx_list] at HA
  clear HC HG b1
  go_wp2_with fail
  refine HA.out.mono ?_
  rintro e w2 ⟨⟨ev, rfl, hev⟩, b2⟩
  have HB2 := hide (HB1.out.trans (b2.mono HB1.out.size))
  have HG2 := hide (HG1.out.later b2 (Nat.le_refl _))
  have HN := hide (numOk_eq A)
  have HV := hide (atoiV_bd (l := A))
  clear HA HB1 HG1 b2
  cases ok
  · go_wp2
    all_goals
      go_ret3
      exact ⟨rfl, HB2.out⟩
  · rcases hev with ⟨ho, rfl⟩ | ⟨ho, t, v, rfl⟩
    · have HI := hide (Itoa_any (atoiV A) w2 HG2.out HV.out.1 HV.out.2)
      have HO := hide ho
      clear ho
      generalize hvv : atoiV A = v at *
      have HVV := hide hvv
      clear hvv
      go_wp2_with fail
      refine HI.out.mono ?_
      rintro e w3 ⟨rfl, b3⟩
      have HB3 := hide (HB2.out.trans (b3.mono HB2.out.size))
      clear HI b3
      go_wp2
      go_ret3
      refine ⟨?_, HB3.out⟩
      rw [HN.out, HO.out, HVV.out]
      show Ending.returned (.tuple #[.int .i64 v, .string (tx B), .bool ((tx (Lib.itoa v)).toList == (tx A).toList)]) = _
      rw [tl, tl, tx_list, tx_list]
      by_cases he : Lib.itoa v = A
      · rw [he]; simp
      · rw [decide_eq_false he, show (Lib.itoa v == A) = false by rw [beq_eq_false_iff_ne]; exact he]; rfl
    · have HO := hide ho
      clear ho
      go_wp2
      go_ret3
      refine ⟨?_, HB2.out⟩
      rw [HN.out, HO.out]
      rfl
end Go.Proofs.YtgeedjlbajmdkaaGreatDoor
