/- The reference: a text in '"'. -/
import Derived.Test.YtgeedjlbajmdkaaGreatDoorJText3
import Derived.Test.YtgeedjlbajmdkaaGreatDoorWords2
set_option linter.unusedSimpArgs false
set_option linter.unusedVariables false
namespace Go.Proofs.YtgeedjlbajmdkaaGreatDoor
open Go.RowKit

theorem escB_app (a b : List UInt8) : escB (a ++ b) = escB a ++ escB b := by simp [escB]
theorem quoteL_len (a : List UInt8) : (quoteL a).length ≤ 2 * a.length + 2 := by
  have := escB_len a
  unfold quoteL
  simp; omega
set_option maxRecDepth 100000 in
set_option maxHeartbeats 1000000 in
theorem RefQuoted_any (s : ByteArray) (w : World) (hs : s.size ≤ 1000000) :
    Calls Tryz.prog 47 #[.string s] w fun e w' => e = .returned (.string (tx (quoteL s.data.toList))) ∧ w = w' := by
  go_enter Tryz.func47, Tryz.ntmps47
  go_wp2
  go_loopw [3, 4] (fun t i wr => ∃ (k : Nat) (acc : List UInt8), k ≤ s.size ∧ i = .int .i64 k ∧ t = .string (tx acc) ∧ acc.length ≤ 2 * k + 1 ∧ Hid (acc = 34 :: escB ((bytesOf s).take k)) ∧ w = wr) (fun _ i _ => s.size - (intOf i).toNat)
  case atStart => exact ⟨0, [34], by omega, by go_num, rfl, by simp, rfl, rfl⟩
  case round =>
    obtain ⟨k, acc, hk, rfl, rfl, hal, HA, rfl⟩ := hrel
    have hts : (tx acc).size ≤ 2000001 := by rw [tx_size]; omega
    by_cases hlt : k < s.size
    · have g1 : decide (k < s.size) = true := by simpa using hlt
      have HB := hide (bytes_take_succ hlt)
      have f1 : (0 : Int) ≤ (k : Int) ∧ (k : Int) < (s.size : Int) ∧ (k : Int) + 1 ≤ (s.size : Int) := by omega
      obtain ⟨f1, f2, f3⟩ := f1
      have HX := hide fun (a : List UInt8) => tx_snoc (wd := a) hlt
      by_cases h34 : s[k] = 34
      · have t1 : ((s[k].toNat : Int) == 34) = true := by rw [h34]; decide
        have HE : Hid ((acc ++ [92]) ++ [s[k]] = 34 :: escB ((bytesOf s).take (k + 1))) := by
          show _ = _
          rw [HB.out, escB_app, HA.out, h34]; simp [escB]
        have HY : Hid (tx acc ++ ⟨#[92]⟩ = tx (acc ++ [92])) := tx_app acc [92]
        clear HA HB h34
        go_wp2
        rw [HY.out, HX.out]
        go_roundw
        case rel => exact ⟨k + 1, _, by omega, by go_num, rfl, by simp; omega, HE.out, by first | trivial | rfl⟩
        case measure => (simp [intOf]; try omega)
      · have t1 : ((s[k].toNat : Int) == 34) = false := by
          rw [beq_eq_false_iff_ne]; intro e; exact h34 (UInt8.toNat_inj.1 (by show s[k].toNat = 34; omega))
        by_cases h92 : s[k] = 92
        · have t2 : ((s[k].toNat : Int) == 92) = true := by rw [h92]; decide
          have HE : Hid ((acc ++ [92]) ++ [s[k]] = 34 :: escB ((bytesOf s).take (k + 1))) := by
            show _ = _
            rw [HB.out, escB_app, HA.out, h92]; simp [escB]
          have HY : Hid (tx acc ++ ⟨#[92]⟩ = tx (acc ++ [92])) := tx_app acc [92]
          clear HA HB h92 h34
          go_wp2
          rw [HY.out, HX.out]
          go_roundw
          case rel => exact ⟨k + 1, _, by omega, by go_num, rfl, by simp; omega, HE.out, by first | trivial | rfl⟩
          case measure => (simp [intOf]; try omega)
        · have t2 : ((s[k].toNat : Int) == 92) = false := by
            rw [beq_eq_false_iff_ne]; intro e; exact h92 (UInt8.toNat_inj.1 (by show s[k].toNat = 92; omega))
          have HE : Hid (acc ++ [s[k]] = 34 :: escB ((bytesOf s).take (k + 1))) := by
            show _ = _
            rw [HB.out, escB_app, HA.out]; simp [escB, h34, h92]
          clear HA HB h92 h34
          go_wp2
          rw [HX.out]
          go_roundw
          case rel => exact ⟨k + 1, _, by omega, by go_num, rfl, by simp; omega, HE.out, by first | trivial | rfl⟩
          case measure => (simp [intOf]; try omega)
    · obtain rfl : k = s.size := by omega
      have g1 : decide (s.size < s.size) = false := by simp
      have HE : Hid (tx acc ++ ⟨#[34]⟩ = tx (quoteL s.data.toList)) := by
        show _ = _
        rw [show (⟨#[34]⟩ : ByteArray) = tx [34] from rfl, tx_app, HA.out, List.take_of_length_le (by unfold bytesOf; rw [tl_len]; omega)]
        rfl
      clear HA
      go_wp2
      go_ret
      rw [HE.out]
      exact ⟨rfl, rfl⟩
end Go.Proofs.YtgeedjlbajmdkaaGreatDoor
