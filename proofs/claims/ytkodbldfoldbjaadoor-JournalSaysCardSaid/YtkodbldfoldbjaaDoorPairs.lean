/- Lists of pairs: LightPairs, rising, SamePairs: what each returns. -/
import Derived.Test.YtkodbldfoldbjaaDoorErr
import Derived.Deep.RegionHeld3
set_option linter.unusedSimpArgs false
set_option linter.unusedVariables false
namespace Go.Proofs.YtkodbldfoldbjaaDoor
open Go.RowKit

theorem infoPair : (Tryd.prog.info? 47).map (fun i => (i.zero, i.size, i.bytes)) = some (some (.agg #[.string ⟨#[]⟩, .int .i64 0]), 2, 24) := by kernel_rfl
theorem encP_len (x : Pr) : (encP x).length = 2 := rfl

theorem get_lt {α : Type} {l : List α} {i : Nat} {x : α} (h : l[i]? = some x) : i < l.length := (List.getElem?_eq_some_iff.1 h).1
theorem all_of_upto {α : Type} {l : List α} {p : α → Bool} (h : ∀ i x, i < l.length → l[i]? = some x → p x = true) : l.all p = true := by
  rw [List.all_eq_true]
  intro x hx
  obtain ⟨i, hi⟩ := List.getElem?_of_mem hx
  exact h i x (get_lt hi) hi
theorem all_not {α : Type} {l : List α} {p : α → Bool} {i : Nat} {x : α} (h : l[i]? = some x) (hp : p x = false) : l.all p = false := by
  cases hh : l.all p
  · rfl
  · have := (List.all_eq_true.1 hh) x (List.mem_of_getElem? h)
    rw [hp] at this; cases this

def shortKey (p : Pr) : Bool := decide (p.1.size ≤ 60)
def lightPairs (l : List Pr) (most : Int) : Bool := decide ((l.length : Int) ≤ most) && l.all shortKey

set_option maxHeartbeats 400000 in
theorem LightPairs_any (ao : Option Addr) (cap : Nat) (l : List Pr) (most : Int) (w : World) (hl : l.length ≤ maxLen) (hs : Sl 2 encP w ao l) :
    Calls Tryd.prog 27 #[.slice ao l.length cap, .int .i64 most] w fun e w' => e = .returned (.bool (lightPairs l most)) ∧ w = w' := by
  unfold maxLen at hl
  by_cases hm : (l.length : Int) ≤ most
  · have hr : lightPairs l most = l.all shortKey := by simp [lightPairs, hm]
    rw [hr]
    go_enter Tryd.func27, Tryd.ntmps27
    go_wp2
    go_loop [5] (fun i => ∃ k : Nat, k ≤ l.length ∧ i = .int .i64 k ∧ ∀ i x, i < k → l[i]? = some x → shortKey x = true) (fun i => l.length - (intOf i).toNat)
    case atStart => exact ⟨0, by omega, rfl, fun i x h => absurd h (by omega)⟩
    case round =>
      obtain ⟨k, hk, rfl, hok⟩ := hrel
      have HOK := hide hok; clear hok
      by_cases hlt : k < l.length
      · obtain ⟨b, off, x, y, rfl, hbw, hlk, c0, c1⟩ := hs.pair hlt
        have Hlk := hide hlk; clear hlk
        by_cases h60 : 60 < x.size
        · go_wp2
          go_ret
          exact ⟨ret_b (all_not Hlk.out (by simp [shortKey]; omega)), rfl⟩
        · go_wp2
          go_round
          case rel => exact ⟨k+1, by omega, by go_num, fun i z hi hz => by
              by_cases e : i = k
              · subst e; rw [Hlk.out] at hz; cases hz; simp [shortKey]; omega
              · exact HOK.out i z (by omega) hz⟩
          case measure => simp [intOf]; omega
      · go_wp2
        go_ret
        exact ⟨ret_b (all_of_upto fun i x hi => HOK.out i x (by omega)), rfl⟩
  · have hr : lightPairs l most = false := by simp [lightPairs, hm]
    rw [hr]
    go_enter Tryd.func27, Tryd.ntmps27
    go_wp2
    go_ret
    exact ⟨rfl, rfl⟩

/-- do the keys rise, up to place k? -/
def upTo (l : List Pr) (k : Nat) : Bool := (List.range k).all fun i => match l[i]?, l[i + 1]? with
  | some a, some b => !Op.bytesLess b.1.toList a.1.toList
  | _, _ => true
def rises (l : List Pr) : Bool := upTo l l.length
theorem upTo_succ (l : List Pr) (k : Nat) : upTo l (k + 1) = (upTo l k && match l[k]?, l[k + 1]? with
  | some a, some b => !Op.bytesLess b.1.toList a.1.toList
  | _, _ => true) := by
  unfold upTo
  rw [List.range_succ, List.all_append]
  simp
theorem upTo_false {l : List Pr} {k : Nat} (h : upTo l k = false) {n : Nat} (hn : k ≤ n) : upTo l n = false := by
  induction n with
  | zero => obtain rfl : k = 0 := by omega
            exact h
  | succ n ih =>
    by_cases e : k = n + 1
    · subst e; exact h
    · rw [upTo_succ, ih (by omega)]; rfl

set_option maxHeartbeats 400000 in
theorem rising_any (ao : Option Addr) (cap : Nat) (l : List Pr) (w : World) (hl : l.length ≤ maxLen) (hs : Sl 2 encP w ao l) :
    Calls Tryd.prog 40 #[.slice ao l.length cap] w fun e w' => e = .returned (.bool (rises l)) ∧ Below w.heap.size w w' := by
  unfold maxLen at hl
  go_enter Tryd.func40, Tryd.ntmps40
  go_wp2
  go_loopw [3] (fun i wr => ∃ k : Nat, (k ≤ l.length ∨ k = 0) ∧ i = .int .i64 ((k : Int) + 1) ∧ upTo l k = true ∧ Below w.heap.size w wr) (fun i _ => l.length + 2 - (intOf i).toNat)
  case atStart => exact ⟨0, by omega, by go_num, rfl, Below.refl _ _⟩
  case round =>
    obtain ⟨k, hk, rfl, hok, hnx⟩ := hrel
    have HOK := hide hok; clear hok
    by_cases hlt : k + 1 < l.length
    · obtain ⟨b, off, x, y, rfl, hbw, hlk, c0, c1⟩ := (hs.later hnx (Nat.le_refl _)).pair (show k < l.length by omega)
      obtain ⟨_, _, x2, y2, e1, _, hlk2, c2, c3⟩ := (hs.later hnx (Nat.le_refl _)).pair hlt
      cases e1
      have Hlk := hide hlk; clear hlk
      have Hlk2 := hide hlk2; clear hlk2
      have hstep : Hid (upTo l (k + 1) = !Op.bytesLess x2.toList x.toList) := by
        show _ = _
        rw [upTo_succ, HOK.out, Hlk.out, Hlk2.out]; rfl
      have f1 : (0 : Int) ≤ (k : Int) + 1 ∧ (k : Int) + 1 < (l.length : Int) ∧ (0 : Int) ≤ (k : Int) ∧ (k : Int) < (l.length : Int) := by omega
      obtain ⟨f1, f2, f3, f4⟩ := f1
      have f5 : IntKind.i64.wrap ((k : Int) + 1 - 1) = (k : Int) := by rw [show ((k : Int) + 1 - 1) = (k : Int) from by omega]; exact IntWalk.i64_in _ (by omega)
      have f6 : ((k : Int) + 1).toNat = k + 1 := by omega
      by_cases hb : Op.bytesLess x2.toList x.toList = true
      · go_wp2
        go_quiet (fail)
        clear f5 f6
        go_wp2
        go_ret
        exact ⟨ret_b (upTo_false (k := k + 1) (by rw [hstep.out, hb]; rfl) (by omega)), below_drewN hnx _⟩
      · have hb' : Op.bytesLess x2.toList x.toList = false := by simpa using hb
        clear hb
        go_wp2
        go_quiet (fail)
        clear f5 f6
        go_wp2
        go_roundw
        case rel => exact ⟨k+1, by omega, by go_num, by rw [hstep.out, hb']; rfl, below_drewN hnx _⟩
        case measure => simp [intOf]; omega
    · go_wp2
      go_ret
      refine ⟨ret_b ?_, hnx⟩
      show upTo l l.length = true
      rcases Nat.lt_or_ge k l.length with h | h
      · rw [show l.length = k + 1 by omega, upTo_succ, HOK.out, List.getElem?_eq_none (by omega : l.length ≤ k + 1)]; split <;> simp_all
      · rcases hk with h2 | h2
        · rw [show l.length = k by omega]; exact HOK.out
        · rw [show l.length = k by omega]; exact HOK.out

set_option maxHeartbeats 400000 in
theorem SamePairs_refl (ao bo : Option Addr) (ca cb : Nat) (l : List Pr) (w : World) (hl : l.length ≤ maxLen) (hs : Sl 2 encP w ao l) (ht : Sl 2 encP w bo l) :
    Calls Tryd.prog 36 #[.slice ao l.length ca, .slice bo l.length cb] w fun e w' => e = .returned (.bool true) ∧ Below w.heap.size w w' := by
  unfold maxLen at hl
  go_enter Tryd.func36, Tryd.ntmps36
  go_wp2
  go_loopw [5] (fun i wr => ∃ k : Nat, k ≤ l.length ∧ i = .int .i64 k ∧ Below w.heap.size w wr) (fun i _ => l.length - (intOf i).toNat)
  case atStart => exact ⟨0, by omega, rfl, Below.refl _ _⟩
  case round =>
    obtain ⟨k, hk, rfl, hnx⟩ := hrel
    by_cases hlt : k < l.length
    · obtain ⟨b, off, x, y, rfl, hbw, hlk, c0, c1⟩ := (hs.later hnx (Nat.le_refl _)).pair hlt
      obtain ⟨b2, off2, x2, y2, rfl, hbw2, hlk2, d0, d1⟩ := (ht.later hnx (Nat.le_refl _)).pair hlt
      rw [hlk] at hlk2; cases hlk2; clear hlk
      go_wp2
      go_quiet (fail)
      go_wp2
      go_roundw
      case rel => exact ⟨k+1, by omega, by go_num, below_drewN hnx _⟩
      case measure => simp [intOf]; omega
    · go_wp2
      go_ret
      exact ⟨rfl, hnx⟩
end Go.Proofs.YtkodbldfoldbjaaDoor
