/- Errors as values; 'same' of package law. -/
import Derived.Test.YtkodbldfoldbjaaDoorRows
import Derived.Test.YtkodbldfoldbjaaDoorLib
set_option linter.unusedSimpArgs false
set_option linter.unusedVariables false
namespace Go.Proofs.YtkodbldfoldbjaaDoor
open Go.RowKit
def errV (n : Int) : Value := if n = 0 then .nilIface else .iface 99 (.int .i64 n)
theorem errV_zero : errV 0 = .nilIface := rfl
theorem errV_pos {n : Int} (h : n ≠ 0) : errV n = .iface 99 (.int .i64 n) := if_neg h
theorem dec0 (f : Int) : decide (0 = f) = (f == 0) := by
  rw [Bool.eq_iff_iff]; simp only [decide_eq_true_eq, beq_iff_eq]; omega
theorem same_nil (f : Int) (w : World) :
    Calls Tryd.prog 15 #[.nilIface, .int .i64 f] w fun e w' => e = .returned (.bool (decide (0 = f))) ∧ w = w' := by
  go_enter Tryd.func15, Tryd.ntmps15
  go_wp2
  go_ret
  exact ⟨ret_b (dec0 f), rfl⟩
theorem ta88 (n : Int) (w : World) : (Instr.typeAssert (.iface 99 (.int .i64 n)) 30 99 true).run Tryd.prog w = .ok (.tuple #[.int .i64 n, .bool true]) w := by kernel_rfl
set_option maxRecDepth 100000 in
theorem same_err (n f : Int) (w : World) (hn : 0 < n) :
    Calls Tryd.prog 15 #[.iface 99 (.int .i64 n), .int .i64 f] w fun e w' => e = .returned (.bool (decide (n = f))) ∧ w = w' := by
  have hta := ta88 n
  by_cases hf : 0 < f
  · have hf' : decide (0 < f) = true := by simpa using hf
    go_enter Tryd.func15, Tryd.ntmps15
    go_wp2
    go_ret
    exact ⟨ret_b (by by_cases h : n = f <;> simp [h]), rfl⟩
  · have hf' : decide (0 < f) = false := by simpa using hf
    go_enter Tryd.func15, Tryd.ntmps15
    go_wp2
    go_ret
    exact ⟨ret_b (by simp; omega), rfl⟩
theorem same_any (n f : Int) (w : World) (hn : 0 ≤ n) :
    Calls Tryd.prog 15 #[errV n, .int .i64 f] w fun e w' => e = .returned (.bool (decide (n = f))) ∧ w = w' := by
  unfold errV
  by_cases h : n = 0
  · subst h; exact same_nil f w
  · rw [if_neg h]; exact same_err n f w (by omega)
end Go.Proofs.YtkodbldfoldbjaaDoor
