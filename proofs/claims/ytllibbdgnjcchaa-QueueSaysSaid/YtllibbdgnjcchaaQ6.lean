/- Walks of functions that QueueSays calls, and of QueueSays itself; each theorem names its own bounds. -/
import Derived.Test.YtllibbdgnjcchaaQ5
namespace Go.Proofs.Ytllibbdgnjcchaa
open Go.RowKit
theorem wrapP {n : Int} (h : 0 ≤ n ∧ n ≤ 9000) : IntKind.i64.wrap n = n := IntWalk.i64_in n (by omega)
theorem turns_any (w : World) : Calls Try.prog 8 #[] w fun e w' => e = .returned (.bool true) ∧ Below w.heap.size w w' := by
  go_enter Try.func8, Try.ntmps8
  go_wp2_with fail
  refine (Pick_any (some ⟨w.heap.size, 0, none⟩) (some ⟨w.heap.size + 1, 0, none⟩) (some ⟨w.heap.size + 1 + 1, 0, none⟩) 2 2 2 [(1, 5), (3, 5)] [1, 2] [true, true] _ (by decide) (by decide) (by decide) ?_ ?_ ?_ (by decide) (by decide)).mono ?_
  · exact Sl.lit (fun _ => rfl) (heap_old _ (heap_old _ (heap_new _ _))) rfl
  · exact Sl.lit (fun _ => rfl) (heap_old _ (heap_at (by simp))) rfl
  · exact Sl.lit (fun _ => rfl) (heap_at (by simp)) rfl
  · rintro e w1 ⟨rfl, hb1⟩
    have hp : pickTo [(1, 5), (3, 5)] [1, 2] [true, true] [((1 : Int), (5 : Int)), (3, 5)].length = 1 := by decide
    rw [hp]
    go_wp2
    go_ret
    exact ⟨rfl, ((((Below.refl _ _).alloc (Nat.le_refl _) _).alloc (by simp) _).alloc (by simp; omega) _).trans (hb1.mono (by simp; omega))⟩
theorem qfault_zero {l : List (Int × Int)} (h : qfault l = 0) : 1 ≤ l.length ∧ l.length ≤ 4 ∧ ∀ q ∈ l, 0 ≤ q.1 ∧ q.1 ≤ 9 := by
  unfold qfault at h
  split at h
  · omega
  · split at h
    · omega
    · rename_i h1 h2
      refine ⟨by omega, by omega, fun q hq => ?_⟩
      have hf : qbad q = false := by
        cases hb : qbad q
        · rfl
        · exact absurd (List.any_eq_true.2 ⟨q, hq, hb⟩) h2
      simp only [qbad, Bool.or_eq_false_iff, decide_eq_false_iff_not] at hf
      omega
theorem qfault_range (l : List (Int × Int)) : 0 ≤ qfault l := by unfold qfault; split <;> (try split) <;> decide
set_option maxRecDepth 100000 in
set_option maxHeartbeats 1000000 in
theorem QueueSays_walk (ao bo co : Option Addr) (ca cb cc : Nat) (l : List (Int × Int)) (has : List Int) (wants : List Bool) (w : World) (hlm : l.length ≤ maxLen) (hlh : has.length ≤ maxLen) (hlw : wants.length ≤ maxLen)
    (hs : Sl 2 encInt2 w ao l) (hsh : Sl 1 encInt w bo has) (hsw : Sl 1 encBool w co wants) :
    Calls Try.prog 3 #[.slice ao l.length ca, .slice bo has.length cb, .slice co wants.length cc] w fun e w' => e = .returned (.bool true) ∧ Below w.heap.size w w' := by
  unfold maxLen at *
  by_cases h10 : l.length ≤ 10 ∧ has.length ≤ 10 ∧ wants.length ≤ 10
  · obtain ⟨hl, hh, hw⟩ := h10
    have e1 : decide (10 < (l.length : Int)) = false := by simp; omega
    have e2 : decide (10 < (has.length : Int)) = false := by simp; omega
    have e3 : decide (10 < (wants.length : Int)) = false := by simp; omega
    go_enter Try.func3, Try.ntmps3
    go_wp2_with (go_at_call 8; refine (turns_any _).mono ?_; rintro e w0 ⟨rfl, hb0⟩)
    refine (QueuesFault_any ao ca l _ (by omega) (hs.later hb0 (Nat.le_refl _))).mono ?_
    rintro e w1 ⟨rfl, rfl⟩
    go_wp2_with fail
    refine (Check_any ao ca l _ (by omega) (hs.later hb0 (Nat.le_refl _))).mono ?_
    rintro e w1 ⟨rfl, hb1⟩
    go_wp2_with fail
    refine (same_any _ _ _ (qfault_range l)).mono ?_
    rintro e w2 ⟨rfl, rfl⟩
    have hb2 : Below w.heap.size w w1 := hb0.trans (hb1.mono hb0.size)
    have hde : decide (qfault l = qfault l) = true := by simp
    rw [hde]
    clear hde hb1 hb0
    go_wp2
    go_loop [9] (fun i => ∃ k : Nat, k ≤ has.length ∧ i = .int .i64 k ∧ ∀ (i : Nat) n, i < k → has[i]? = some n → 0 ≤ n ∧ n ≤ 1000) (fun i => has.length - (intOf i).toNat)
    case atStart => exact ⟨0, by omega, rfl, fun i q h => absurd h (by omega)⟩
    case round =>
      obtain ⟨k, hk, rfl, hok⟩ := hrel
      by_cases hlt : k < has.length
      · obtain ⟨b1, off1, x, rfl, hbw1, hhk, c2⟩ := (hsh.later hb2 (Nat.le_refl _)).int hlt
        have Hhk := hide hhk; clear hhk
        have HOK := hide hok; clear hok
        go_wp2
        all_goals first
        | (go_ret; exact ⟨rfl, hb2⟩)
        | (go_round
           case rel => exact ⟨k+1, by omega, by go_num, fun i n hi hn => by
             by_cases e : i = k
             · subst e; rw [Hhk.out] at hn; cases hn; omega
             · exact HOK.out i n (by omega) hn⟩
           case measure => simp [intOf]; omega)
      · have hh9 : ∀ n ∈ has, 0 ≤ n ∧ n ≤ 1000 := fun n hn => by
          obtain ⟨i, hi⟩ := List.getElem?_of_mem hn
          exact hok i n (by have := (List.getElem?_eq_some_iff.1 hi).1; omega) hi
        clear hok
        by_cases hq : qfault l = 0
        · obtain ⟨q1, q2, q9⟩ := qfault_zero hq
          rw [hq]
          have HQ := hide hq; clear hq
          go_wp2
          clear hk hlt
          go_loopw [10] (fun i wr => ∃ k : Nat, k ≤ l.length ∧ i = .int .i64 k ∧ Below w.heap.size w wr) (fun i _ => l.length - (intOf i).toNat)
          case atStart => exact ⟨0, by omega, rfl, hb2⟩
          case round =>
            obtain ⟨k, hk, rfl, hnx⟩ := hrel
            by_cases hA : k + 1 < l.length
            · by_cases hB : k + 1 < has.length
              · obtain ⟨b0, off, w1, c1, rfl, hbw0, hl1, d0, d1⟩ := (hs.later hnx (Nat.le_refl _)).int2 (show k < l.length by omega)
                obtain ⟨_, _, w2, c2, e1, _, hl2, d2, d3⟩ := (hs.later hnx (Nat.le_refl _)).int2 hA
                cases e1
                obtain ⟨b1, off1, x, rfl, hbw1, hx1, d4⟩ := (hsh.later hnx (Nat.le_refl _)).int (show k < has.length by omega)
                obtain ⟨_, _, y, e1, _, hx2, d5⟩ := (hsh.later hnx (Nat.le_refl _)).int hB
                cases e1
                have n1 := hh9 x (List.mem_of_getElem? hx1)
                have n2 := hh9 y (List.mem_of_getElem? hx2)
                have n3 := q9 _ (List.mem_of_getElem? hl1)
                have n4 := q9 _ (List.mem_of_getElem? hl2)
                have k1 := mulb n1 n4; have k2 := mulb n2 n3
                clear hl1 hl2 hx1 hx2
                have f1 : decide ((k : Int) + 1 < (l.length : Int)) = true := by simp; omega
                have f2 : decide ((k : Int) + 1 < (has.length : Int)) = true := by simp; omega
                have f3 : (k : Int) < (l.length : Int) ∧ (k : Int) < (has.length : Int) ∧ (0 : Int) ≤ (k : Int) := by omega
                obtain ⟨f3, f4, f5⟩ := f3
                have f6 : (0 : Int) ≤ (k : Int) + 1 ∧ (k : Int) + 1 < (l.length : Int) ∧ (k : Int) + 1 < (has.length : Int) := by omega
                obtain ⟨f6, f7, f8⟩ := f6
                have wx : IntKind.i64.wrap (x * w2) = x * w2 := wrapP k1
                have wy : IntKind.i64.wrap (y * w1) = y * w1 := wrapP k2
                have wk2 : ((k : Int) + 1).toNat = k + 1 := by omega
                have wk : IntKind.i64.wrap ((k : Int) + 1) = (k : Int) + 1 := IntWalk.i64_in _ (by omega)
                go_wp2
                go_region_held3 (fun w' => w'.cell? ⟨b0, off + k * 2, none⟩ = some (.int .i64 w1) ∧ w'.cell? ⟨b0, off + k * 2 + 1, none⟩ = some (.int .i64 c1) ∧ w'.cell? ⟨b0, off + (k + 1) * 2, none⟩ = some (.int .i64 w2) ∧ w'.cell? ⟨b0, off + (k + 1) * 2 + 1, none⟩ = some (.int .i64 c2) ∧ w'.cell? ⟨b1, off1 + k, none⟩ = some (.int .i64 x) ∧ w'.cell? ⟨b1, off1 + (k + 1), none⟩ = some (.int .i64 y))
                  (first
                    | go_keep
                    | (go_split_ands; exact ⟨cell_later hb1 (by assumption), cell_later hb1 (by assumption), cell_later hb1 (by assumption), cell_later hb1 (by assumption), cell_later hb1 (by assumption), cell_later hb1 (by assumption)⟩))
                  ((go_at_call 12; refine (less_any _ _ _ _ _ _ _ n1 n2 n3 n4).mono ?_; rintro e w3 ⟨rfl, hb1⟩))
                clear wk wk2 wx wy
                have hne : (decide (x * w2 < y * w1) != decide (x * w2 < y * w1)) = false := by simp
                go_wp2
                go_roundw
                case rel => exact ⟨k+1, by omega, by go_num, (hnx.drew).trans (hb1.mono (by have := hnx.size; simp; omega))⟩
                case measure => simp [intOf]; omega
              · have f1 : decide ((k : Int) + 1 < (l.length : Int)) = true := by simp; omega
                have f2 : decide ((k : Int) + 1 < (has.length : Int)) = false := by simp; omega
                go_wp2_with (first
                  | (go_at_call 13; refine (Pick_any ao bo co ca cb cc l has wants _ (by omega) (by omega) (by omega) (hs.later hnx (Nat.le_refl _)) (hsh.later hnx (Nat.le_refl _)) (hsw.later hnx (Nat.le_refl _)) q9 hh9).mono ?_; rintro e w3 ⟨rfl, hb3⟩)
                  | (go_at_call 14; refine (Picked_any ao bo co ca cb cc l has wants _ (by omega) (by omega) (by omega) (hs.later (hnx.trans (hb3.mono hnx.size)) (Nat.le_refl _)) (hsh.later (hnx.trans (hb3.mono hnx.size)) (Nat.le_refl _)) (hsw.later (hnx.trans (hb3.mono hnx.size)) (Nat.le_refl _)) q9 hh9).mono ?_; rintro e w4 ⟨rfl, hb4⟩))
                go_ret
                have hn3 := hnx.trans (hb3.mono hnx.size)
                exact ⟨by simp, hn3.trans (hb4.mono hn3.size)⟩
            · have f1 : decide ((k : Int) + 1 < (l.length : Int)) = false := by simp; omega
              go_wp2_with (first
                  | (go_at_call 13; refine (Pick_any ao bo co ca cb cc l has wants _ (by omega) (by omega) (by omega) (hs.later hnx (Nat.le_refl _)) (hsh.later hnx (Nat.le_refl _)) (hsw.later hnx (Nat.le_refl _)) q9 hh9).mono ?_; rintro e w3 ⟨rfl, hb3⟩)
                  | (go_at_call 14; refine (Picked_any ao bo co ca cb cc l has wants _ (by omega) (by omega) (by omega) (hs.later (hnx.trans (hb3.mono hnx.size)) (Nat.le_refl _)) (hsh.later (hnx.trans (hb3.mono hnx.size)) (Nat.le_refl _)) (hsw.later (hnx.trans (hb3.mono hnx.size)) (Nat.le_refl _)) q9 hh9).mono ?_; rintro e w4 ⟨rfl, hb4⟩))
              go_ret
              have hn3 := hnx.trans (hb3.mono hnx.size)
              exact ⟨by simp, hn3.trans (hb4.mono hn3.size)⟩
        · have hq1 : 0 < qfault l := by have := qfault_range l; omega
          have HQ := hide hq; clear hq
          go_wp2
          go_ret
          exact ⟨rfl, hb2⟩
  · go_enter Try.func3, Try.ntmps3
    go_wp2_with (go_at_call 8; refine (turns_any _).mono ?_; rintro e w0 ⟨rfl, hb0⟩)
    all_goals first
    | (go_ret; exact ⟨rfl, hb0⟩)
    | (exfalso; omega)
    | skip
    go_ways
end Go.Proofs.Ytllibbdgnjcchaa
