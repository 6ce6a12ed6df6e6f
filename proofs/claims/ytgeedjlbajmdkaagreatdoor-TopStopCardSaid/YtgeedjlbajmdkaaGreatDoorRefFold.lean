/- The references Two and Grouped: what each returns. -/
import Derived.Test.YtgeedjlbajmdkaaGreatDoorFold
set_option linter.unusedSimpArgs false
set_option linter.unusedVariables false
namespace Go.Proofs.YtgeedjlbajmdkaaGreatDoor
open Go.RowKit

theorem refTwo_any (k a b : Int) (w : World) :
    Calls Tryz.prog 108 #[.int .i64 k, .int .i64 a, .int .i64 b] w fun e w' => e = .returned (.int .i64 (two k a b)) ∧ w = w' := by
  by_cases h : k = 2
  · have hr : two k a b = min a b := if_pos h
    have e1 : (k == 2) = true := by simpa using h
    rw [hr]
    clear hr h
    go_enter Tryz.func108, Tryz.ntmps108
    go_wp2
    all_goals (go_ret; exact ⟨ret_i (by omega), rfl⟩)
  · by_cases h3 : k = 3
    · have hr : two k a b = max a b := by unfold two; rw [if_neg h, if_pos h3]
      have e1 : (k == 2) = false := by simpa using h
      have e2 : (k == 3) = true := by simpa using h3
      rw [hr]
      clear hr h h3
      go_enter Tryz.func108, Tryz.ntmps108
      go_wp2
      all_goals (go_ret; exact ⟨ret_i (by omega), rfl⟩)
    · have hr : two k a b = wrap64 (a + b) := by unfold two; rw [if_neg h, if_neg h3]
      have e1 : (k == 2) = false := by simpa using h
      have e2 : (k == 3) = false := by simpa using h3
      rw [hr]
      clear hr h h3
      go_enter Tryz.func108, Tryz.ntmps108
      go_wp2
      go_ret
      exact ⟨rfl, rfl⟩

/-- no group goes on at n -/
def brk (k : Int) (l : List Pr) (n : Nat) : Prop := ∀ q p, (groups k (l.take n)).getLast? = some q → l[n]? = some p → ¬ q.1 = p.1
theorem gstep_new {k : Int} {out : List Pr} {p : Pr} (h : ∀ q, out.getLast? = some q → ¬ q.1 = p.1) : gstep k out p = out ++ [p] := by
  unfold gstep
  split
  · rename_i q hq; rw [if_neg (h q hq)]
  · rename_i hq
    rw [List.getLast?_eq_none_iff.1 hq]; rfl
theorem gstep_add {k : Int} {out : List Pr} {x : ByteArray} {v y : Int} : gstep k (out ++ [(x, v)]) (x, y) = out ++ [(x, two k v y)] := by
  unfold gstep; simp

set_option maxRecDepth 100000 in
set_option maxHeartbeats 1000000 in
theorem Grouped_any (k : Int) (ao : Option Addr) (cap : Nat) (l : List Pr) (w : World) (hl : l.length ≤ 1000000000) (hs : Sl 2 encP w ao l) :
    Calls Tryz.prog 72 #[.int .i64 k, .slice ao l.length cap] w fun e w' => ∃ v, e = .returned v ∧ Own 2 encP 101 w' w.heap.size v (groups k l) ∧ Below w.heap.size w w' := by
  obtain ⟨i0, hi, hz0, hz1, hz2⟩ := info_parts infoPair
  go_enter Tryz.func72, Tryz.ntmps72
  go_wp2
  go_loopw [5, 6] (fun v i wr => ∃ n : Nat, n ≤ l.length ∧ i = .int .i64 n ∧ Own 2 encP 101 wr w.heap.size v (groups k (l.take n)) ∧ Below w.heap.size w wr ∧ brk k l n) (fun _ i _ => l.length - (intOf i).toNat)
  case atStart => exact ⟨0, by omega, rfl, Own.nil, Below.refl _ _, fun q p h => by simp [groups] at h⟩
  case round =>
    obtain ⟨n, hn, rfl, hown, hnx, hbrk⟩ := hrel
    by_cases hlt : n < l.length
    · obtain ⟨b, off, x, y, rfl, hbw, hlk, c0, c1⟩ := (hs.later hnx (Nat.le_refl _)).pair hlt
      have hst : groups k (l.take (n + 1)) = groups k (l.take n) ++ [(x, y)] := by rw [groups_take_succ hlk]; exact gstep_new fun q hq => hbrk q _ hq hlk
      have Hst := hide hst; clear hst hbrk hlk
      have hgl : (groups k (l.take n)).length ≤ n := by have := groups_length k (l.take n); rw [List.length_take] at this; omega
      generalize groups k (l.take n) = out at *
      obtain ⟨wo, rfl⟩ : ∃ wo : World, wo = wr := ⟨_, rfl⟩
      go_wp2
      go_loopw [6] (fun i wi => ∃ (m : Nat) (vl : Int), n < m ∧ m ≤ l.length ∧ i = .int .i64 m ∧ groups k (l.take m) = out ++ [(x, vl)] ∧ wi.cell? ⟨wo.heap.size, 0, none⟩ = some (.string x) ∧ wi.cell? ⟨wo.heap.size, 1, none⟩ = some (.int .i64 vl) ∧ wi.frozen? ⟨wo.heap.size, 1, none⟩ = false ∧ Below wo.heap.size wo wi ∧ wo.heap.size < wi.heap.size) (fun i _ => l.length - (intOf i).toNat)
      case atStart => exact ⟨n + 1, y, by omega, by omega, by go_num, Hst.out, by simp [World.cell?_alloc_at], by simp [World.cell?_alloc_at], by simp, (Below.refl _ _).alloc (Nat.le_refl _) _, by simp⟩
      case round =>
        obtain ⟨m, vl, hnm, hm, rfl, hgm, p0, p1, pf, hbi, hsz⟩ := hrel
        have Hg := hide hgm; clear hgm
        have hnw : Below w.heap.size w wr := hnx.trans (hbi.mono hnx.size)
        have hownw := hown.later hbi
        by_cases hlm : m < l.length
        · obtain ⟨_, _, x2, y2, e1, _, hlk, d0, d1⟩ := (hs.later hnw (Nat.le_refl _)).pair hlm
          cases e1
          have hlm1 : decide (m < l.length) = true := by simpa using hlm
          have f1 : (0 : Int) ≤ (m : Int) ∧ (m : Int) < (l.length : Int) := by omega
          obtain ⟨f1, f2⟩ := f1
          by_cases hx : x2 = x
          · subst hx
            have Hst2 : Hid (groups k (l.take (m + 1)) = out ++ [(x2, two k vl y2)]) := by
              show _ = _
              rw [groups_take_succ hlk, Hg.out, gstep_add]
            have hkk := beqq x2
            clear hlk
            go_wp2
            go_quiet (fail)
            go_wp2
            refine still_tail 10 (by kernel_rfl) (by kernel_rfl) ?_
            simp only [List.take_succ_cons, List.take_zero, List.drop_succ_cons, List.drop_zero]
            repeat still_step
            still_call ((refTwo_any _ _ _ _).mono fun e w'' h => ⟨h.1, h.2.symm⟩)
            repeat still_step
            refine wpStill_nil ?_
            go_wp2
            go_roundw
            case rel => exact ⟨m + 1, two k vl y2, by omega, by omega, by go_num, Hst2.out, cellSetO p0 (by simp), cellSetS p1, by simp [pf], (below_drewN hbi _).setCell (Nat.le_refl _) _, by simp; omega⟩
            case measure => simp [intOf]; omega
          · have hkk := bneq hx
            have Hlk := hide hlk; clear hlk
            go_wp2
            go_quiet (fail)
            go_wp2_with (at_builtin; refine wpList_append_one encP_len _ _ 53 i0 _ rfl rfl Tryz.underlying53 hi hz0 hz1 hz2 rfl (by decide) (by decide) ((hownw.drewN nq).alloc _) ((below_drewN hnw nq).alloc ?c0 _) ?c1 ?c2 rfl (x, vl) ⟨wr.heap.size, 0, none⟩ 1 rfl (news_at ?c3 rfl) ?c4 ?_)
            case c0 => have := hnw.size; simp; omega
            case c1 => have := hnw.size; simp; omega
            case c2 => omega
            case c3 => simp
            case c4 => simp [encP, Value.oneCell']
            intro v' w1 hown1 hb1 _ _
            go_wp2
            go_roundw
            case rel => exact ⟨m, by omega, rfl, by rw [Hg.out]; exact hown1, hb1, fun q p hq hp => by rw [Hg.out] at hq; rw [Hlk.out] at hp; cases hp; simp at hq; cases hq; exact fun e => hx e.symm⟩
            case measure => simp [intOf]; omega
        · have hlm1 : decide (m < l.length) = false := by simpa using hlm
          go_wp2
          go_quiet (fail)
          go_wp2_with (at_builtin; refine wpList_append_one encP_len _ _ 53 i0 _ rfl rfl Tryz.underlying53 hi hz0 hz1 hz2 rfl (by decide) (by decide) ((hownw.drewN nq).alloc _) ((below_drewN hnw nq).alloc ?c0 _) ?c1 ?c2 rfl (x, vl) ⟨wr.heap.size, 0, none⟩ 1 rfl (news_at ?c3 rfl) ?c4 ?_)
          case c0 => have := hnw.size; simp; omega
          case c1 => have := hnw.size; simp; omega
          case c2 => omega
          case c3 => simp
          case c4 => simp [encP, Value.oneCell']
          intro v' w1 hown1 hb1 _ _
          go_wp2
          go_roundw
          case rel => exact ⟨m, by omega, rfl, by rw [Hg.out]; exact hown1, hb1, fun q p hq hp => by rw [List.getElem?_eq_none (by omega)] at hp; cases hp⟩
          case measure => simp [intOf]; omega
    · go_wp2
      go_ret
      rw [List.take_of_length_le (by omega)] at hown
      exact ⟨_, rfl, hown, hnx⟩
end Go.Proofs.YtgeedjlbajmdkaaGreatDoor
