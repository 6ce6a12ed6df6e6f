/- Package pair: Sum and Slice: what each returns. -/
import Derived.Test.YtgeedjlbajmdkaaGreatDoorErr
import Derived.Test.YtgeedjlbajmdkaaGreatDoorRows
set_option linter.unusedSimpArgs false
set_option linter.unusedVariables false
namespace Go.Proofs.YtgeedjlbajmdkaaGreatDoor
open Go.RowKit

/-- one byte more -/
def sumStep (h : Int) (c : UInt8) : Int := bits BinOp.xor IntKind.u32 h ((c.toNat : Int) % 4294967296) * 16777619 % 4294967296
def sumB (l : List UInt8) : Int := l.foldl sumStep 2166136261
theorem sumStep_bd (h : Int) (c : UInt8) : 0 ≤ sumStep h c ∧ sumStep h c < 4294967296 := by unfold sumStep; omega
theorem sumB_bd (l : List UInt8) : 0 ≤ sumB l ∧ sumB l < 4294967296 := by
  have key : ∀ (l : List UInt8) (h : Int), 0 ≤ h ∧ h < 4294967296 → 0 ≤ l.foldl sumStep h ∧ l.foldl sumStep h < 4294967296 := by
    intro l
    induction l with
    | nil => intro h hh; exact hh
    | cons a l ih => intro h _; exact ih _ (sumStep_bd h a)
  exact key l _ (by omega)
theorem sumB_snoc (s : ByteArray) (k : Nat) (h : k < s.size) : sumB (s.data.toList.take (k + 1)) = sumStep (sumB (s.data.toList.take k)) s[k] := by
  unfold sumB
  rw [List.take_succ_eq_append_getElem (by simpa using h), List.foldl_append]
  rfl
/-- the slice that a key lies in -/
def sliceB (s : ByteArray) (many : Int) : Int := sumB s.data.toList % max many 1
theorem sliceB_bd (s : ByteArray) (many : Int) : 0 ≤ sliceB s many ∧ sliceB s many < max many 1 := by
  unfold sliceB
  exact ⟨Int.emod_nonneg _ (by omega), Int.emod_lt_of_pos _ (by omega)⟩

set_option maxHeartbeats 400000 in
theorem Sum_any (s : ByteArray) (w : World) (hs : s.size ≤ maxLen) :
    Calls Tryz.prog 106 #[.string s] w fun e w' => e = .returned (.int .u32 (sumB s.data.toList)) ∧ w = w' := by
  unfold maxLen at hs
  go_enter Tryz.func106, Tryz.ntmps106
  go_wp2
  go_loop [3, 7] (fun h i => ∃ k : Nat, k ≤ s.size ∧ i = .int .i64 k ∧ h = .int .u32 (sumB (s.data.toList.take k))) (fun _ i => s.size - (intOf i).toNat)
  case atStart => exact ⟨0, by omega, rfl, rfl⟩
  case round =>
    obtain ⟨k, hk, rfl, rfl⟩ := hrel
    by_cases hlt : k < s.size
    · have hsn := sumB_snoc s k hlt
      have Hsn := hide hsn; clear hsn
      generalize sumB (s.data.toList.take k) = h at *
      go_wp2
      go_round
      case rel => exact ⟨k+1, by omega, by go_num, by rw [Hsn.out]; rfl⟩
      case measure => simp [intOf]; omega
    · go_wp2
      go_ret
      rw [List.take_of_length_le (by simp; omega)]
      exact ⟨rfl, rfl⟩

theorem Slice_any (s : ByteArray) (many : Int) (w : World) (hs : s.size ≤ maxLen) (hm : many ≤ 1000) :
    Calls Tryz.prog 68 #[.string s, .int .i64 many] w fun e w' => e = .returned (.int .i64 (sliceB s many)) ∧ w = w' := by
  have hb := sumB_bd s.data.toList
  have hr : sliceB s many = sumB s.data.toList % max many 1 := rfl
  have Hr := hide hr; clear hr
  go_enter Tryz.func68, Tryz.ntmps68
  go_wp2_with fail
  refine (Sum_any s _ hs).mono ?_
  rintro e w1 ⟨rfl, rfl⟩
  generalize sumB s.data.toList = hv at *
  go_wp2
  · go_ret
    refine ⟨ret_i ?_, rfl⟩
    have hm1 : max many 1 = 1 := by omega
    rw [Hr.out, hm1, Int.emod_one, IntWalk.wrap64_in 0 ⟨by decide, by decide⟩]
  · go_ret
    refine ⟨ret_i ?_, rfl⟩
    have hm1 : max many 1 = many := by omega
    have h1 := Int.emod_nonneg hv (show many ≠ 0 by omega)
    have h2 := Int.emod_lt_of_pos hv (show 0 < many by omega)
    rw [Hr.out, hm1, IntWalk.wrap64_in _ ⟨by omega, by omega⟩]
end Go.Proofs.YtgeedjlbajmdkaaGreatDoor
