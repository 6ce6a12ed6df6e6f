/- Walks of functions that QueueSays calls, and of QueueSays itself; each theorem names its own bounds. -/
import Derived.Test.YtllibbdgnjcchaaQ2
import Derived.Deep.RegionHeld3
namespace Go.Proofs.Ytllibbdgnjcchaa
open Go.RowKit

def errV (n : Int) : Value := if n = 0 then .nilIface else .iface 88 (.int .i64 n)
theorem less_any (a b c d h o : Int) (w : World) (h1 : 0 ≤ h ∧ h ≤ 1000) (h2 : 0 ≤ o ∧ o ≤ 1000) (h3 : 0 ≤ a ∧ a ≤ 9) (h4 : 0 ≤ c ∧ c ≤ 9) :
    Calls Try.prog 12 #[.agg #[.int .i64 a, .int .i64 b], .agg #[.int .i64 c, .int .i64 d], .int .i64 h, .int .i64 o] w fun e w' => e = .returned (.bool (decide (h * c < o * a))) ∧ Below w.heap.size w w' := by
  have k1 : 0 ≤ h * c ∧ h * c ≤ 9000 := ⟨Int.mul_nonneg h1.1 h4.1, by have := Int.mul_le_mul h1.2 h4.2 h4.1 (by omega : (0:Int) ≤ 1000); omega⟩
  have k2 : 0 ≤ o * a ∧ o * a ≤ 9000 := ⟨Int.mul_nonneg h2.1 h3.1, by have := Int.mul_le_mul h2.2 h3.2 h3.1 (by omega : (0:Int) ≤ 1000); omega⟩
  go_enter Try.func12, Try.ntmps12
  go_wp2
  go_ret
  exact ⟨rfl, ((Below.refl _ _).alloc (Nat.le_refl _) _).alloc (by simp) _⟩

set_option maxHeartbeats 400000 in
theorem Check_any (ao : Option Addr) (cap : Nat) (l : List (Int × Int)) (w : World) (hl : l.length ≤ 1000) (hs : Sl 2 encInt2 w ao l) :
    Calls Try.prog 11 #[.slice ao l.length cap] w fun e w' => e = .returned (errV (qfault l)) ∧ Below w.heap.size w w' := by
  by_cases hb : 1 ≤ l.length ∧ l.length ≤ 4
  · obtain ⟨h1, h2⟩ := hb
    have e1 : decide ((l.length : Int) < 1) = false := by simp; omega
    have e2 : decide (4 < (l.length : Int)) = false := by simp; omega
    go_enter Try.func11, Try.ntmps11
    go_wp2
    go_loopw [16] (fun i wr => ∃ k : Nat, k ≤ l.length ∧ i = .int .i64 k ∧ okUpto l k ∧ Below w.heap.size w wr) (fun i _ => l.length - (intOf i).toNat)
    case atStart => exact ⟨0, by omega, rfl, fun i q h => absurd h (by omega), Below.refl _ _⟩
    case round =>
      obtain ⟨k, hk, rfl, hok, hnx⟩ := hrel
      by_cases hlt : k < l.length
      · obtain ⟨b, off, wt, cp, rfl, hbw, hlk, c0, c1⟩ := (hs.later hnx (Nat.le_refl _)).int2 hlt
        have Hlk := hide hlk; clear hlk
        have hq : qbad (wt, cp) = (decide (wt < 1) || decide (9 < wt) || decide (cp < 0) || decide (12 < cp)) := rfl
        have Hq := hide hq; clear hq
        go_wp2
        all_goals first
        | (go_ret; exact ⟨by rw [qfault_bad h1 h2 Hlk.out (by rw [Hq.out]; simp; omega)]; rfl, hnx.alloc hnx.size _⟩)
        | (go_roundw
           case rel => exact ⟨k+1, by omega, by go_num, okUpto_succ hok Hlk.out (by rw [Hq.out]; simp; omega), hnx.alloc hnx.size _⟩
           case measure => simp [intOf]; omega)
      · go_wp2
        go_ret
        exact ⟨by rw [qfault_ok h1 h2 (fun i q hi => hok i q (by omega))]; rfl, hnx⟩
  · go_enter Try.func11, Try.ntmps11
    by_cases h0 : l.length < 1
    · have e1 : decide ((l.length : Int) < 1) = true := by simp; omega
      go_wp2
      go_ret
      exact ⟨by rw [qfault_many hb]; rfl, Below.refl _ _⟩
    · have e1 : decide ((l.length : Int) < 1) = false := by simp; omega
      have e2 : decide (4 < (l.length : Int)) = true := by simp; omega
      go_wp2
      go_ret
      exact ⟨by rw [qfault_many hb]; rfl, Below.refl _ _⟩

theorem dec0 (f : Int) : decide (0 = f) = (f == 0) := by
  rw [Bool.eq_iff_iff]; simp only [decide_eq_true_eq, beq_iff_eq]; omega
theorem same_nil (f : Int) (w : World) :
    Calls Try.prog 10 #[.nilIface, .int .i64 f] w fun e w' => e = .returned (.bool (decide (0 = f))) ∧ w = w' := by
  go_enter Try.func10, Try.ntmps10
  go_wp2
  go_ret
  exact ⟨ret_b (dec0 f), rfl⟩
theorem ta88 (n : Int) (w : World) : (Instr.typeAssert (.iface 88 (.int .i64 n)) 29 88 true).run Try.prog w = .ok (.tuple #[.int .i64 n, .bool true]) w := by kernel_rfl
set_option maxRecDepth 100000 in
theorem same_err (n f : Int) (w : World) (hn : 0 < n) :
    Calls Try.prog 10 #[.iface 88 (.int .i64 n), .int .i64 f] w fun e w' => e = .returned (.bool (decide (n = f))) ∧ w = w' := by
  have hta := ta88 n
  by_cases hf : 0 < f
  · have hf' : decide (0 < f) = true := by simpa using hf
    go_enter Try.func10, Try.ntmps10
    go_wp2
    go_ret
    exact ⟨ret_b (by by_cases h : n = f <;> simp [h]), rfl⟩
  · have hf' : decide (0 < f) = false := by simpa using hf
    go_enter Try.func10, Try.ntmps10
    go_wp2
    go_ret
    exact ⟨ret_b (by simp; omega), rfl⟩
theorem same_any (n f : Int) (w : World) (hn : 0 ≤ n) :
    Calls Try.prog 10 #[errV n, .int .i64 f] w fun e w' => e = .returned (.bool (decide (n = f))) ∧ w = w' := by
  unfold errV
  by_cases h : n = 0
  · subst h; exact same_nil f w
  · rw [if_neg h]; exact same_err n f w (by omega)
end Go.Proofs.Ytllibbdgnjcchaa
