/- Lists of pairs: LightPairs, rising, SamePairs: what each returns. -/
import Derived.Test.YtgeedjlbajmdkaaGreatDoorErr
import Derived.Deep.RegionHeld3
set_option linter.unusedSimpArgs false
set_option linter.unusedVariables false
namespace Go.Proofs.YtgeedjlbajmdkaaGreatDoor
open Go.RowKit

theorem infoPair : (Tryz.prog.info? 101).map (fun i => (i.zero, i.size, i.bytes)) = some (some (.agg #[.string ⟨#[]⟩, .int .i64 0]), 2, 24) := by kernel_rfl

theorem get_lt {α : Type} {l : List α} {i : Nat} {x : α} (h : l[i]? = some x) : i < l.length := (List.getElem?_eq_some_iff.1 h).1
theorem all_of_upto {α : Type} {l : List α} {p : α → Bool} (h : ∀ i x, i < l.length → l[i]? = some x → p x = true) : l.all p = true := by
  rw [List.all_eq_true]
  intro x hx
  obtain ⟨i, hi⟩ := List.getElem?_of_mem hx
  exact h i x (get_lt hi) hi
theorem all_not {α : Type} {l : List α} {p : α → Bool} {i : Nat} {x : α} (h : l[i]? = some x) (hp : p x = false) : l.all p = false := by
  cases hh : l.all p
  · rfl
  · have := (List.all_eq_true.1 hh) x (List.mem_of_getElem? h)
    rw [hp] at this; cases this

def shortKey (p : Pr) : Bool := decide (p.1.size ≤ 60)
def lightPairs (l : List Pr) (most : Int) : Bool := decide ((l.length : Int) ≤ most) && l.all shortKey


/-- do the keys rise, up to place k? -/
def upTo (l : List Pr) (k : Nat) : Bool := (List.range k).all fun i => match l[i]?, l[i + 1]? with
  | some a, some b => !Op.bytesLess b.1.toList a.1.toList
  | _, _ => true
def rises (l : List Pr) : Bool := upTo l l.length
theorem upTo_succ (l : List Pr) (k : Nat) : upTo l (k + 1) = (upTo l k && match l[k]?, l[k + 1]? with
  | some a, some b => !Op.bytesLess b.1.toList a.1.toList
  | _, _ => true) := by
  unfold upTo
  rw [List.range_succ, List.all_append]
  simp
theorem upTo_false {l : List Pr} {k : Nat} (h : upTo l k = false) {n : Nat} (hn : k ≤ n) : upTo l n = false := by
  induction n with
  | zero => obtain rfl : k = 0 := by omega
            exact h
  | succ n ih =>
    by_cases e : k = n + 1
    · subst e; exact h
    · rw [upTo_succ, ih (by omega)]; rfl


set_option maxHeartbeats 400000 in
theorem SamePairs_refl (ao bo : Option Addr) (ca cb : Nat) (l : List Pr) (w : World) (hl : l.length ≤ maxLen) (hs : Sl 2 encP w ao l) (ht : Sl 2 encP w bo l) :
    Calls Tryz.prog 24 #[.slice ao l.length ca, .slice bo l.length cb] w fun e w' => e = .returned (.bool true) ∧ Below w.heap.size w w' := by
  unfold maxLen at hl
  go_enter Tryz.func24, Tryz.ntmps24
  go_wp2
  go_loopw [5] (fun i wr => ∃ k : Nat, k ≤ l.length ∧ i = .int .i64 k ∧ Below w.heap.size w wr) (fun i _ => l.length - (intOf i).toNat)
  case atStart => exact ⟨0, by omega, rfl, Below.refl _ _⟩
  case round =>
    obtain ⟨k, hk, rfl, hnx⟩ := hrel
    by_cases hlt : k < l.length
    · obtain ⟨b, off, x, y, rfl, hbw, hlk, c0, c1⟩ := (hs.later hnx (Nat.le_refl _)).pair hlt
      obtain ⟨b2, off2, x2, y2, rfl, hbw2, hlk2, d0, d1⟩ := (ht.later hnx (Nat.le_refl _)).pair hlt
      rw [hlk] at hlk2; cases hlk2; clear hlk
      go_wp2
      go_quiet (fail)
      go_wp2
      go_roundw
      case rel => exact ⟨k+1, by omega, by go_num, below_drewN hnx _⟩
      case measure => simp [intOf]; omega
    · go_wp2
      go_ret
      exact ⟨rfl, hnx⟩
end Go.Proofs.YtgeedjlbajmdkaaGreatDoor
