/- The reference SameNumbers at two equal lists. -/
import Derived.Test.YtkodbldfoldbjaaDoorOwn
import Derived.Test.YtkodbldfoldbjaaDoorRows
set_option linter.unusedSimpArgs false
set_option linter.unusedVariables false
namespace Go.Proofs.YtkodbldfoldbjaaDoor
open Go.RowKit
theorem infoInt : (Tryd.prog.info? 3).map (fun i => (i.zero, i.size, i.bytes)) = some (some (.int .i64 0), 1, 8) := by kernel_rfl
theorem encInt_len (x : Int) : (encInt x).length = 1 := rfl
set_option maxHeartbeats 400000 in
theorem SameNumbers_refl (ao bo : Option Addr) (ca cb : Nat) (l : List Int) (w : World) (hl : l.length ≤ maxLen) (hs : Sl 1 encInt w ao l) (ht : Sl 1 encInt w bo l) :
    Calls Tryd.prog 60 #[.slice ao l.length ca, .slice bo l.length cb] w fun e w' => e = .returned (.bool true) ∧ Below w.heap.size w w' := by
  unfold maxLen at hl
  go_enter Tryd.func60, Tryd.ntmps60
  go_wp2
  go_loopw [5] (fun i wr => ∃ k : Nat, k ≤ l.length ∧ i = .int .i64 k ∧ Below w.heap.size w wr) (fun i _ => l.length - (intOf i).toNat)
  case atStart => exact ⟨0, by omega, rfl, Below.refl _ _⟩
  case round =>
    obtain ⟨k, hk, rfl, hnx⟩ := hrel
    by_cases hlt : k < l.length
    · obtain ⟨b, off, x, rfl, hbw, hlk, c0⟩ := (hs.later hnx (Nat.le_refl _)).int hlt
      obtain ⟨b2, off2, x2, rfl, hbw2, hlk2, d0⟩ := (ht.later hnx (Nat.le_refl _)).int hlt
      rw [hlk] at hlk2; cases hlk2; clear hlk
      go_wp2
      go_quiet (fail)
      go_wp2
      go_roundw
      case rel => exact ⟨k+1, by omega, by go_num, below_drewN hnx _⟩
      case measure => simp [intOf]; omega
    · go_wp2
      go_ret
      exact ⟨rfl, hnx⟩
end Go.Proofs.YtkodbldfoldbjaaDoor
