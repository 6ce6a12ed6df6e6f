/- Walks of functions that QueueSays calls, and of QueueSays itself; each theorem names its own bounds. -/
import Derived.Test.YtllibbdgnjcchaaQ4
namespace Go.Proofs.Ytllibbdgnjcchaa
open Go.RowKit
theorem mulb {x v : Int} (h1 : 0 ≤ x ∧ x ≤ 1000) (h4 : 0 ≤ v ∧ v ≤ 9) : 0 ≤ x * v ∧ x * v ≤ 9000 :=
  ⟨Int.mul_nonneg h1.1 h4.1, by have := Int.mul_le_mul h1.2 h4.2 h4.1 (by omega : (0:Int) ≤ 1000); omega⟩
set_option maxHeartbeats 1000000 in
theorem Picked_any (ao bo co : Option Addr) (ca cb cc : Nat) (l : List (Int × Int)) (has : List Int) (wants : List Bool) (w : World) (hl : l.length ≤ 1000) (hlh : has.length ≤ 1000) (hlw : wants.length ≤ 1000)
    (hs : Sl 2 encInt2 w ao l) (hsh : Sl 1 encInt w bo has) (hsw : Sl 1 encBool w co wants) (hw9 : ∀ q ∈ l, 0 ≤ q.1 ∧ q.1 ≤ 9) (hh9 : ∀ n ∈ has, 0 ≤ n ∧ n ≤ 1000) :
    Calls Try.prog 14 #[.slice ao l.length ca, .slice bo has.length cb, .slice co wants.length cc] w fun e w' => e = .returned (.int .i64 (pickTo l has wants l.length)) ∧ Below w.heap.size w w' := by
  go_enter Try.func14, Try.ntmps14
  go_wp2
  go_loopw [7, 8] (fun b i wr => ∃ k : Nat, k ≤ l.length ∧ i = .int .i64 k ∧ b = .int .i64 (pickTo l has wants k) ∧ Below w.heap.size w wr) (fun _ i _ => l.length - (intOf i).toNat)
  case atStart => exact ⟨0, by omega, rfl, rfl, Below.refl _ _⟩
  case round =>
    obtain ⟨k, hk, rfl, rfl, hnx⟩ := hrel
    by_cases hlt : k < l.length
    · obtain ⟨b0, off, wt, cp, rfl, hbw, hlk, c0, c1⟩ := (hs.later hnx (Nat.le_refl _)).int2 hlt
      have Hlk := hide hlk; clear hlk
      have hp := pickTo_lo l has wants k
      have Hp := hide hp; clear hp
      by_cases hA : k < has.length
      · have hA1 : decide (has.length ≤ k) = false := by simp; omega
        obtain ⟨b1, off1, x, rfl, hbw1, hhk, c2⟩ := (hsh.later hnx (Nat.le_refl _)).int hA
        have hx9 := hh9 x (List.mem_of_getElem? hhk)
        have Hhk := hide hhk; clear hhk
        by_cases hB : k < wants.length
        · have hB1 : decide (wants.length ≤ k) = false := by simp; omega
          obtain ⟨b2, off2, wn, rfl, hbw2, hwk, c3⟩ := (hsw.later hnx (Nat.le_refl _)).bool hB
          have Hwk := hide hwk; clear hwk
          cases wn
          · have Hst : Hid (pickTo l has wants (k+1) = pickTo l has wants k) := pstep_not Hwk.out
            generalize pickTo l has wants k = bv at *
            go_wp2
            go_quiet (fail)
            go_wp2
            go_roundw
            case rel => exact ⟨k+1, by omega, by go_num, by rw [Hst.out], below_drewN (hnx) _⟩
            case measure => simp [intOf]; omega
          · by_cases hC : cp ≤ x
            · have hC1 : decide (cp ≤ x) = true := by simpa using hC
              have Hst : Hid (pickTo l has wants (k+1) = pickTo l has wants k) := pstep_cap Hhk.out Hlk.out hC
              generalize pickTo l has wants k = bv at *
              go_wp2
              go_quiet (fail)
              go_wp2
              go_roundw
              case rel => exact ⟨k+1, by omega, by go_num, by rw [Hst.out], below_drewN (hnx) _⟩
              case measure => simp [intOf]; omega
            · have hC1 : decide (cp ≤ x) = false := by simpa using hC
              rcases Hp.out with hbv | ⟨m, hbv, hm1, hm2⟩
              · have Hst : Hid (pickTo l has wants (k+1) = (k : Int)) := pstep_first Hhk.out Hlk.out Hwk.out hC (by rw [hbv]; decide)
                rw [hbv]; clear hbv Hp
                go_wp2
                go_quiet (fail)
                go_wp2
                go_quiet (fail)
                go_wp2
                go_roundw
                case rel => exact ⟨k+1, by omega, by go_num, by rw [Hst.out], below_drewN (hnx) _⟩
                case measure => simp [intOf]; omega
              · obtain ⟨_, _, v, d, e1, _, hlm, d0, d1⟩ := (hs.later hnx (Nat.le_refl _)).int2 (show m < l.length by omega)
                cases e1
                obtain ⟨_, _, y, e1, _, hhm, d2⟩ := (hsh.later hnx (Nat.le_refl _)).int hm2
                cases e1
                have hy9 := hh9 y (List.mem_of_getElem? hhm)
                have hv9 := hw9 _ (List.mem_of_getElem? hlm)
                have ht9 := hw9 _ (List.mem_of_getElem? Hlk.out)
                have Hst : Hid (pickTo l has wants (k+1) = if x * v < y * wt then (k : Int) else (m : Int)) := by
                  show pstep _ _ _ _ _ = _
                  rw [hbv]
                  split
                  · rename_i hl; exact pstep_less Hhk.out Hlk.out Hwk.out hC hhm hlm hl
                  · rename_i hl; exact pstep_more Hhk.out Hlk.out Hwk.out hC hhm hlm hl
                have kb := mulb hx9 hv9; have kb2 := mulb hy9 ht9
                rw [hbv]; clear hbv Hp
                clear hlm hhm
                go_wp2
                go_quiet (fail)
                go_wp2
                have hm0 : decide ((m : Int) < 0) = false := by simp
                have hmI : (0 : Int) ≤ (m : Int) ∧ (m : Int) < (l.length : Int) ∧ (m : Int) < (has.length : Int) := by omega
                have hkI : (0 : Int) ≤ (k : Int) ∧ (k : Int) < (has.length : Int) := by omega
                obtain ⟨i1, i2, i3⟩ := hmI; obtain ⟨i4, i5⟩ := hkI
                by_cases hxl : x * v < y * wt
                · have hxl1 : decide (x * v < y * wt) = true := by simpa using hxl
                  go_quiet (fail)
                  go_wp2
                  go_roundw
                  case rel => exact ⟨k+1, by omega, by go_num, by rw [Hst.out, if_pos (by assumption)], (below_drewN hnx _)⟩
                  case measure => simp [intOf]; omega
                · have hxl1 : decide (x * v < y * wt) = false := by simpa using hxl
                  go_quiet (fail)
                  go_wp2
                  go_roundw
                  case rel => exact ⟨k+1, by omega, by go_num, by rw [Hst.out, if_neg (by omega)], (below_drewN hnx _)⟩
                  case measure => simp [intOf]; omega
        · have Hst : Hid (pickTo l has wants (k+1) = pickTo l has wants k) := pstep_wants hB
          have hB1 : decide (wants.length ≤ k) = true := by simp; omega
          generalize pickTo l has wants k = bv at *
          go_wp2
          go_quiet (fail)
          go_wp2
          go_roundw
          case rel => exact ⟨k+1, by omega, by go_num, by rw [Hst.out], below_drewN (hnx) _⟩
          case measure => simp [intOf]; omega
      · have Hst : Hid (pickTo l has wants (k+1) = pickTo l has wants k) := pstep_has hA
        have hA2 : decide (has.length ≤ k) = true := by simp; omega
        generalize pickTo l has wants k = bv at *
        go_wp2
        go_quiet (fail)
        go_wp2
        go_roundw
        case rel => exact ⟨k+1, by omega, by go_num, by rw [Hst.out], below_drewN (hnx) _⟩
        case measure => simp [intOf]; omega
    · go_wp2
      go_ret
      obtain rfl : k = l.length := by omega
      exact ⟨rfl, hnx⟩
end Go.Proofs.Ytllibbdgnjcchaa
