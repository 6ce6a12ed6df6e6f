/- Lists of texts: the same list; few and short ones. -/
import Derived.Test.YtgeedjlbajmdkaaGreatDoorWords2
set_option linter.unusedSimpArgs false
set_option linter.unusedVariables false
namespace Go.Proofs.YtgeedjlbajmdkaaGreatDoor
open Go.RowKit

set_option maxRecDepth 100000 in
set_option maxHeartbeats 400000 in
theorem SameTexts_refl (ao bo : Option Addr) (ca cb : Nat) (l : List ByteArray) (w : World) (hl : l.length ≤ 1000000000) (hs : Sl 1 encS w ao l) (ht : Sl 1 encS w bo l) :
    Calls Tryz.prog 20 #[.slice ao l.length ca, .slice bo l.length cb] w fun e w' => e = .returned (.bool true) ∧ Below w.heap.size w w' := by
  go_enter Tryz.func20, Tryz.ntmps20
  go_wp2
  go_loopw [5] (fun i wr => ∃ k : Nat, k ≤ l.length ∧ i = .int .i64 k ∧ Below w.heap.size w wr) (fun i _ => l.length - (intOf i).toNat)
  case atStart => exact ⟨0, by omega, rfl, Below.refl _ _⟩
  case round =>
    obtain ⟨k, hk, rfl, hnx⟩ := hrel
    by_cases hlt : k < l.length
    · obtain ⟨b, off, x, rfl, hbw, hlk, c0⟩ := (hs.later hnx (Nat.le_refl _)).str hlt
      obtain ⟨b2, off2, x2, rfl, hbw2, hlk2, d0⟩ := (ht.later hnx (Nat.le_refl _)).str hlt
      rw [hlk] at hlk2; cases hlk2; clear hlk
      have f1 : (0 : Int) ≤ (k : Int) ∧ (k : Int) < (l.length : Int) := by omega
      obtain ⟨f1, f2⟩ := f1
      go_wp2
      go_quiet (fail)
      go_wp2
      go_roundw
      case rel => exact ⟨k+1, by omega, by go_num, below_drewN hnx _⟩
      case measure => (simp [intOf]; try omega)
    · go_wp2
      go_ret
      exact ⟨rfl, hnx⟩
def lightTexts (l : List ByteArray) (many most : Int) : Bool := decide ((l.length : Int) ≤ many) && l.all fun x => decide ((x.size : Int) ≤ most)
theorem lightTexts_of {l : List ByteArray} {many most : Int} (h : lightTexts l many most = true) : (l.length : Int) ≤ many ∧ ∀ x ∈ l, (x.size : Int) ≤ most := by
  simp only [lightTexts, Bool.and_eq_true, decide_eq_true_eq, List.all_eq_true] at h; exact h
theorem all_upto {α : Type} {l : List α} {p : α → Bool} (h : ∀ i x, i < l.length → l[i]? = some x → p x = true) : l.all p = true := by
  rw [List.all_eq_true]
  intro x hx
  obtain ⟨i, hi⟩ := List.getElem?_of_mem hx
  exact h i x (List.getElem?_eq_some_iff.1 hi).1 hi
theorem all_no {α : Type} {l : List α} {p : α → Bool} {i : Nat} {x : α} (h : l[i]? = some x) (hp : p x = false) : l.all p = false := by
  rw [List.all_eq_false]
  exact ⟨x, List.mem_of_getElem? h, by simp [hp]⟩
set_option maxRecDepth 100000 in
set_option maxHeartbeats 400000 in
theorem LightTexts_any (ao : Option Addr) (cap : Nat) (l : List ByteArray) (many most : Int) (w : World) (hl : l.length ≤ maxLen) (hs : Sl 1 encS w ao l) :
    Calls Tryz.prog 17 #[.slice ao l.length cap, .int .i64 many, .int .i64 most] w fun e w' => e = .returned (.bool (lightTexts l many most)) ∧ w = w' := by
  unfold maxLen at hl
  by_cases hm : (l.length : Int) ≤ many
  · have hr : lightTexts l many most = l.all fun x => decide ((x.size : Int) ≤ most) := by simp [lightTexts, hm]
    rw [hr]
    have e1 : decide (many < (l.length : Int)) = false := by simp; omega
    go_enter Tryz.func17, Tryz.ntmps17
    go_wp2
    clear e1
    go_loop [7] (fun i => ∃ k : Nat, k ≤ l.length ∧ i = .int .i64 k ∧ Hid (∀ i x, i < k → l[i]? = some x → decide ((x.size : Int) ≤ most) = true)) (fun i => l.length - (intOf i).toNat)
    case atStart => exact ⟨0, by omega, rfl, fun i x h => absurd h (by omega)⟩
    case round =>
      obtain ⟨k, hk, rfl, HOK⟩ := hrel
      by_cases hlt : k < l.length
      · obtain ⟨b, off, x, rfl, hbw, hlk, c0⟩ := hs.str hlt
        have Hlk := hide hlk; clear hlk
        by_cases h60 : most < (x.size : Int)
        · have e2 : decide (most < (x.size : Int)) = true := by simpa using h60
          go_wp2
          go_ret
          exact ⟨ret_b (all_no Hlk.out (by simp; omega)), rfl⟩
        · have e2 : decide (most < (x.size : Int)) = false := by simpa using h60
          go_wp2
          go_round
          case rel => exact ⟨k+1, by omega, by go_num, fun i z hi hz => by
              by_cases e : i = k
              · subst e; rw [Hlk.out] at hz; cases hz; simp; omega
              · exact HOK.out i z (by omega) hz⟩
          case measure => (simp [intOf]; try omega)
      · go_wp2
        go_ret
        exact ⟨ret_b (all_upto fun i x hi => HOK.out i x (by omega)), rfl⟩
  · have hr : lightTexts l many most = false := by simp [lightTexts, hm]
    rw [hr]
    have e1 : decide (many < (l.length : Int)) = true := by simp; omega
    go_enter Tryz.func17, Tryz.ntmps17
    go_wp2
    go_ret
    exact ⟨rfl, rfl⟩
end Go.Proofs.YtgeedjlbajmdkaaGreatDoor
