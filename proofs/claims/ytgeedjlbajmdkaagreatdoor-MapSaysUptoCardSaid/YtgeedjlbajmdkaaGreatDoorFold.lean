/- Package fold: Check, First, Two, and the reference Two: what each returns. -/
import Derived.Test.YtgeedjlbajmdkaaGreatDoorPairs
import Derived.Test.YtgeedjlbajmdkaaGreatDoorBuild
import Derived.StillTailTactics
set_option linter.unusedSimpArgs false
set_option linter.unusedVariables false
namespace Go.Proofs.YtgeedjlbajmdkaaGreatDoor
open Go.RowKit

def kindFault (k : Int) : Int := if k < 1 ∨ 4 < k then 3 else 0
theorem foldCheck_any (k : Int) (w : World) :
    Calls Tryz.prog 77 #[.int .i64 k] w fun e w' => e = .returned (errV (kindFault k)) ∧ w = w' := by
  by_cases h1 : k < 1
  · have hr : kindFault k = 3 := by unfold kindFault; rw [if_pos (by omega)]
    rw [hr]
    have e1 : decide (k < 1) = true := by simpa using h1
    go_enter Tryz.func77, Tryz.ntmps77
    go_wp2
    go_ret
    exact ⟨rfl, rfl⟩
  · have e1 : decide (k < 1) = false := by simpa using h1
    by_cases h2 : 4 < k
    · have hr : kindFault k = 3 := by unfold kindFault; rw [if_pos (by omega)]
      rw [hr]
      go_enter Tryz.func77, Tryz.ntmps77
      go_wp2
      go_ret
      exact ⟨rfl, rfl⟩
    · have hr : kindFault k = 0 := by unfold kindFault; rw [if_neg (by omega)]
      rw [hr]
      go_enter Tryz.func77, Tryz.ntmps77
      go_wp2
      go_ret
      exact ⟨rfl, rfl⟩

def first (k v : Int) : Int := if k = 4 then 1 else v
theorem First_any (k v : Int) (w : World) :
    Calls Tryz.prog 100 #[.int .i64 k, .int .i64 v] w fun e w' => e = .returned (.int .i64 (first k v)) ∧ w = w' := by
  by_cases h : k = 4
  · have hr : first k v = 1 := if_pos h
    have e1 : (k == 4) = true := by simpa using h
    rw [hr]
    clear hr h
    go_enter Tryz.func100, Tryz.ntmps100
    go_wp2
    go_ret
    exact ⟨rfl, rfl⟩
  · have hr : first k v = v := if_neg h
    have e1 : (k == 4) = false := by simpa using h
    rw [hr]
    clear hr h
    go_enter Tryz.func100, Tryz.ntmps100
    go_wp2
    go_ret
    exact ⟨rfl, rfl⟩

def two (k a b : Int) : Int := if k = 2 then min a b else if k = 3 then max a b else wrap64 (a + b)
theorem two_any (k a b : Int) (w : World) :
    Calls Tryz.prog 79 #[.int .i64 k, .int .i64 a, .int .i64 b] w fun e w' => e = .returned (.int .i64 (two k a b)) ∧ w = w' := by
  by_cases h : k = 2
  · have hr : two k a b = min a b := if_pos h
    have e1 : (k == 2) = true := by simpa using h
    rw [hr]
    clear hr h
    go_enter Tryz.func79, Tryz.ntmps79
    go_wp2
    all_goals (go_ret; exact ⟨ret_i (by omega), rfl⟩)
  · by_cases h3 : k = 3
    · have hr : two k a b = max a b := by unfold two; rw [if_neg h, if_pos h3]
      have e1 : (k == 2) = false := by simpa using h
      have e2 : (k == 3) = true := by simpa using h3
      rw [hr]
      clear hr h h3
      go_enter Tryz.func79, Tryz.ntmps79
      go_wp2
      all_goals (go_ret; exact ⟨ret_i (by omega), rfl⟩)
    · have hr : two k a b = wrap64 (a + b) := by unfold two; rw [if_neg h, if_neg h3]
      have e1 : (k == 2) = false := by simpa using h
      have e2 : (k == 3) = false := by simpa using h3
      rw [hr]
      clear hr h h3
      go_enter Tryz.func79, Tryz.ntmps79
      go_wp2
      go_ret
      exact ⟨rfl, rfl⟩

/-- one pair more -/
def gstep (k : Int) (out : List Pr) (p : Pr) : List Pr := match out.getLast? with
  | some q => if q.1 = p.1 then out.dropLast ++ [(q.1, two k q.2 p.2)] else out ++ [p]
  | none => [p]
def groups (k : Int) (l : List Pr) : List Pr := l.foldl (gstep k) []
theorem groups_take_succ {k : Int} {l : List Pr} {i : Nat} {p : Pr} (h : l[i]? = some p) : groups k (l.take (i + 1)) = gstep k (groups k (l.take i)) p := by
  have hlt : i < l.length := get_lt h
  have hx : l[i] = p := (List.getElem?_eq_some_iff.1 h).2
  unfold groups
  rw [List.take_succ_eq_append_getElem hlt, List.foldl_append, hx]; rfl
theorem gstep_length (k : Int) (out : List Pr) (p : Pr) : (gstep k out p).length ≤ out.length + 1 := by
  unfold gstep
  split
  · rename_i q hq
    split
    · simp
    · simp
  · simp
theorem groups_length (k : Int) (l : List Pr) : (groups k l).length ≤ l.length := by
  have key : ∀ (l : List Pr) (o : List Pr), (l.foldl (gstep k) o).length ≤ o.length + l.length := by
    intro l
    induction l with
    | nil => intro o; simp
    | cons a l ih => intro o; have h1 := ih (gstep k o a); have h2 := gstep_length k o a; simp only [List.foldl_cons, List.length_cons]; omega
  have := key l []
  simpa [groups] using this


set_option maxRecDepth 100000 in
set_option maxHeartbeats 1000000 in
theorem Groups_any (k : Int) (ao : Option Addr) (cap : Nat) (l : List Pr) (w : World) (hl : l.length ≤ 1000000000) (hs : Sl 2 encP w ao l) :
    Calls Tryz.prog 69 #[.int .i64 k, .slice ao l.length cap] w fun e w' => ∃ v, e = .returned v ∧ Own 2 encP 101 w' w.heap.size v (groups k l) ∧ Below w.heap.size w w' := by
  obtain ⟨i0, hi, hz0, hz1, hz2⟩ := info_parts infoPair
  go_enter Tryz.func69, Tryz.ntmps69
  go_wp2
  go_loopw [5, 11] (fun v i wr => ∃ n : Nat, n ≤ l.length ∧ i = .int .i64 n ∧ Own 2 encP 101 wr w.heap.size v (groups k (l.take n)) ∧ Below w.heap.size w wr) (fun _ i _ => l.length - (intOf i).toNat)
  case atStart => exact ⟨0, by omega, rfl, Own.nil, Below.refl _ _⟩
  case round =>
    obtain ⟨n, hn, rfl, hown, hnx⟩ := hrel
    by_cases hlt : n < l.length
    · obtain ⟨b, off, x, y, rfl, hbw, hlk, c0, c1⟩ := (hs.later hnx (Nat.le_refl _)).pair hlt
      have Hst : Hid (groups k (l.take (n + 1)) = gstep k (groups k (l.take n)) (x, y)) := groups_take_succ hlk
      have hgl : (groups k (l.take n)).length ≤ n := by have := groups_length k (l.take n); rw [List.length_take] at this; omega
      clear hlk
      generalize groups k (l.take n) = out at *
      by_cases h0 : out.length = 0
      · obtain rfl : out = [] := List.eq_nil_of_length_eq_zero h0
        obtain ⟨⟨ao', cp, rfl⟩, hrow⟩ := hown
        have hown : Own 2 encP 101 wr w.heap.size (.slice ao' ([] : List Pr).length cp) ([] : List Pr) := ⟨⟨ao', cp, rfl⟩, hrow⟩
        clear hrow
        go_wp2
        go_quiet (fail)
        go_wp2_with (at_builtin; refine wpList_append_one encP_len _ _ 53 i0 _ rfl rfl Tryz.underlying53 hi hz0 hz1 hz2 rfl (by decide) (by decide) ((hown.alloc _).alloc _) (below_drewN (hnx.alloc hnx.size _) _ |>.alloc ?c0 _) ?c1 ?c2 rfl (x, y) ⟨wr.heap.size + 1, 0, none⟩ 1 rfl (news_at ?c3 rfl) ?c4 ?_)
        case c0 => have := hnx.size; simp; omega
        case c1 => have := hnx.size; simp; omega
        case c2 => simp
        case c3 => simp
        case c4 => simp [encP, Value.oneCell']
        intro v' w1 hown1 hb1 _ _
        go_wp2
        go_roundw
        case rel => exact ⟨n+1, by omega, by go_num, by rw [Hst.out]; exact hown1, hb1⟩
        case measure => simp [intOf]; omega
      · obtain ⟨g, cp, rfl, hgb, hgw, hgc, hgf⟩ := hown.addr (by omega)
        obtain ⟨m, hm⟩ : ∃ m, out.length = m + 1 := ⟨out.length - 1, by omega⟩
        obtain ⟨⟨qk, qv⟩, hq⟩ : ∃ q : Pr, out[m]? = some q := ⟨out[m], by simp [hm]⟩
        have hsl := (hown.sl encP_len).pair (show m < out.length by omega)
        obtain ⟨_, _, _, _, e1, _, e2, d0, d1⟩ := hsl
        cases e1
        rw [hq] at e2; cases e2
        simp only [Nat.zero_add] at d0 d1
        have hgl2 : out.getLast? = some (qk, qv) := by rw [List.getLast?_eq_getElem?, hm]; exact hq
        have dl : out.dropLast ++ [(qk, two k qv y)] = out.set m (qk, two k qv y) := by
          rw [List.dropLast_eq_take, hm, List.set_eq_take_append_cons_drop, if_pos (by omega), List.drop_eq_nil_of_le (by omega)]
          simp
        have hown2 : Own 2 encP 101 wr w.heap.size (.slice (some ⟨g, 0, none⟩) (m + 1) cp) out := by rw [← hm]; exact hown
        rw [hm]
        have f1 : (0 : Int) ≤ (m : Int) ∧ (m : Int) < (m : Int) + 1 ∧ (m : Int) ≤ 1000000000 := by omega
        obtain ⟨f1, f2, f3⟩ := f1
        have fz := hgf (m * 2 + 1)
        have Hm := hide hm; clear hm
        by_cases hk : qk = x
        · subst hk
          have hgs : Hid (gstep k out (qk, y) = out.set m (qk, two k qv y)) := by
            show _ = _
            unfold gstep; rw [hgl2]; simp [dl]
          clear dl hgl2
          go_wp2
          go_quiet (fail)
          go_wp2
          refine still_tail 13 (by kernel_rfl) (by kernel_rfl) ?_
          simp only [List.take_succ_cons, List.take_zero, List.drop_succ_cons, List.drop_zero]
          repeat still_step
          still_call ((two_any _ _ _ _).mono fun e w'' h => ⟨h.1, h.2.symm⟩)
          repeat still_step
          refine wpStill_nil ?_
          go_wp2
          go_roundw
          case rel =>
            refine ⟨n+1, by omega, by go_num, ?_, (below_drewN (hnx.alloc hnx.size _) _).setCell hgb _⟩
            rw [Hst.out, hgs.out, ← Hm.out]
            exact Own.set (x := (qk, qv)) encP_len ((hown.alloc _).drewN _) hq (by decide) rfl
          case measure => simp [intOf]; omega
        · have hgs : Hid (gstep k out (x, y) = out ++ [(x, y)]) := by
            show _ = _
            unfold gstep; rw [hgl2]; simp [hk]
          clear dl hgl2
          have hkk := bneq hk
          go_wp2
          go_quiet (fail)
          go_wp2_with (at_builtin; refine wpList_append_one encP_len _ _ 53 i0 _ rfl rfl Tryz.underlying53 hi hz0 hz1 hz2 rfl (by decide) (by decide) ((hown2.alloc _).alloc _) (below_drewN (hnx.alloc hnx.size _) _ |>.alloc ?c0 _) ?c1 ?c2 rfl (x, y) ⟨wr.heap.size + 1, 0, none⟩ 1 rfl (news_at ?c3 rfl) ?c4 ?_)
          case c0 => have := hnx.size; simp; omega
          case c1 => have := hnx.size; simp; omega
          case c2 => omega
          case c3 => simp
          case c4 => simp [encP, Value.oneCell']
          intro v' w1 hown1 hb1 _ _
          go_wp2
          go_roundw
          case rel => exact ⟨n+1, by omega, by go_num, by rw [Hst.out, hgs.out]; exact hown1, hb1⟩
          case measure => simp [intOf]; omega
    · go_wp2
      go_ret
      rw [List.take_of_length_le (by omega)] at hown
      exact ⟨_, rfl, hown, hnx⟩
end Go.Proofs.YtgeedjlbajmdkaaGreatDoor
