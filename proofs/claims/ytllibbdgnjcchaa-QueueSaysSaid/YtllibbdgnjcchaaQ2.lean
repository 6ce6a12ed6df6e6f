/- Walks of functions that QueueSays calls, and of QueueSays itself; each theorem names its own bounds. -/
import Derived.Test.YtllibbdgnjcchaaRows
import Derived.Test.YtllibbdgnjcchaaLib
namespace Go.Proofs.Ytllibbdgnjcchaa
open Go.RowKit

def qbad (q : Int × Int) : Bool := decide (q.1 < 1) || decide (9 < q.1) || decide (q.2 < 0) || decide (12 < q.2)
def qfault (l : List (Int × Int)) : Int := if l.length < 1 ∨ 4 < l.length then 2 else if l.any qbad then 1 else 0

theorem qfault_many {l : List (Int × Int)} (h : ¬ (1 ≤ l.length ∧ l.length ≤ 4)) : qfault l = 2 := by
  unfold qfault; rw [if_pos (by omega)]
theorem qfault_bad {l : List (Int × Int)} (h1 : 1 ≤ l.length) (h2 : l.length ≤ 4) {k : Nat} {q} (hk : l[k]? = some q) (hb : qbad q = true) : qfault l = 1 := by
  unfold qfault; rw [if_neg (by omega), if_pos]
  exact List.any_eq_true.2 ⟨q, List.mem_of_getElem? hk, hb⟩
theorem qfault_ok {l : List (Int × Int)} (h1 : 1 ≤ l.length) (h2 : l.length ≤ 4) (h : ∀ (i : Nat) q, i < l.length → l[i]? = some q → qbad q = false) : qfault l = 0 := by
  unfold qfault; rw [if_neg (by omega), if_neg]
  intro ha
  obtain ⟨q, hq, hb⟩ := List.any_eq_true.1 ha
  obtain ⟨i, hi⟩ := List.getElem?_of_mem hq
  have := h i q (by by_cases hc : i < l.length; exact hc; simp [List.getElem?_eq_none (by omega : l.length ≤ i)] at hi) hi
  simp_all
def okUpto (l : List (Int × Int)) (k : Nat) : Prop := ∀ (i : Nat) q, i < k → l[i]? = some q → qbad q = false
theorem okUpto_succ {l : List (Int × Int)} {k : Nat} {q} (h : okUpto l k) (hq : l[k]? = some q) (hb : qbad q = false) : okUpto l (k+1) := by
  intro i q' hi hq'
  by_cases e : i = k
  · subst e; rw [hq] at hq'; cases hq'; exact hb
  · exact h i q' (by omega) hq'

set_option maxHeartbeats 400000 in
theorem QueuesFault_any (ao : Option Addr) (cap : Nat) (l : List (Int × Int)) (w : World) (hl : l.length ≤ 1000) (hs : Sl 2 encInt2 w ao l) :
    Calls Try.prog 9 #[.slice ao l.length cap] w fun e w' => e = .returned (.int .i64 (qfault l)) ∧ w = w' := by
  by_cases hb : 1 ≤ l.length ∧ l.length ≤ 4
  · obtain ⟨h1, h2⟩ := hb
    have e1 : decide ((l.length : Int) < 1) = false := by simp; omega
    have e2 : decide (4 < (l.length : Int)) = false := by simp; omega
    go_enter Try.func9, Try.ntmps9
    go_wp2
    go_loop [3] (fun i => ∃ k : Nat, k ≤ l.length ∧ i = .int .i64 k ∧ okUpto l k) (fun i => l.length - (intOf i).toNat)
    case atStart => exact ⟨0, by omega, rfl, fun i q h => absurd h (by omega)⟩
    case round =>
      obtain ⟨k, hk, rfl, hok⟩ := hrel
      by_cases hlt : k < l.length
      · obtain ⟨b, off, wt, cp, rfl, hbw, hlk, c0, c1⟩ := hs.int2 hlt
        have Hlk := hide hlk; clear hlk
        have hq : qbad (wt, cp) = (decide (wt < 1) || decide (9 < wt) || decide (cp < 0) || decide (12 < cp)) := rfl
        have Hq := hide hq; clear hq
        go_wp2
        all_goals first
        | (go_ret; exact ⟨ret_i (qfault_bad h1 h2 Hlk.out (by rw [Hq.out]; simp; omega)), rfl⟩)
        | (go_round
           case rel => exact ⟨k+1, by omega, by go_num, okUpto_succ hok Hlk.out (by rw [Hq.out]; simp; omega)⟩
           case measure => simp [intOf]; omega)
      · go_wp2
        go_ret
        exact ⟨by rw [qfault_ok h1 h2 (fun i q hi => hok i q (by omega))]; rfl, rfl⟩
  · go_enter Try.func9, Try.ntmps9
    by_cases h0 : l.length < 1
    · have e1 : decide ((l.length : Int) < 1) = true := by simp; omega
      go_wp2
      go_ret
      exact ⟨by rw [qfault_many hb]; rfl, rfl⟩
    · have e1 : decide ((l.length : Int) < 1) = false := by simp; omega
      have e2 : decide (4 < (l.length : Int)) = true := by simp; omega
      go_wp2
      go_ret
      exact ⟨by rw [qfault_many hb]; rfl, rfl⟩
end Go.Proofs.Ytllibbdgnjcchaa
