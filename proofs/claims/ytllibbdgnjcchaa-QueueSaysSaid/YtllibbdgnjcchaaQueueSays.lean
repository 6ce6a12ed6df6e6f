/- 'QueueSays' returns true for every input and leaves its arguments as they were; no condition. -/
import Derived.Test.YtllibbdgnjcchaaQueue
import Derived.Test.YtllibbdgnjcchaaOpen
namespace Go.Proofs.Ytllibbdgnjcchaa
open Go.ChangeShapes Go.WideShapes Go.ChangeAt Go.RowKit
theorem wrapP {n : Int} (h : 0 ≤ n ∧ n ≤ 9000) : IntKind.i64.wrap n = n := IntWalk.i64_in n (by omega)
theorem turns_any (w : World) : Calls Try.prog 8 #[] w fun e w' => e = .returned (.bool true) ∧ Below w.heap.size w w' := by
  go_enter Try.func8, Try.ntmps8
  go_wp2_with fail
  refine (Pick_any (some ⟨w.heap.size, 0, none⟩) (some ⟨w.heap.size + 1, 0, none⟩) (some ⟨w.heap.size + 1 + 1, 0, none⟩) 2 2 2 [(1, 5), (3, 5)] [1, 2] [true, true] _ (by decide) (by decide) (by decide) ?_ ?_ ?_ (by decide) (by decide)).mono ?_
  · exact Sl.lit (fun _ => rfl) (heap_old _ (heap_old _ (heap_new _ _))) rfl
  · exact Sl.lit (fun _ => rfl) (heap_old _ (heap_at (by simp))) rfl
  · exact Sl.lit (fun _ => rfl) (heap_at (by simp)) rfl
  · rintro e w1 ⟨rfl, hb1⟩
    have hp : pickTo [(1, 5), (3, 5)] [1, 2] [true, true] [((1 : Int), (5 : Int)), (3, 5)].length = 1 := by decide
    rw [hp]
    go_wp2
    go_ret
    exact ⟨rfl, ((((Below.refl _ _).alloc (Nat.le_refl _) _).alloc (by simp) _).alloc (by simp; omega) _).trans (hb1.mono (by simp; omega))⟩
set_option maxRecDepth 100000 in
set_option maxHeartbeats 1000000 in
theorem QueueSays_walk (ao bo co : Option Addr) (ca cb cc : Nat) (l : List (Int × Int)) (has : List Int) (wants : List Bool) (w : World) (hlm : l.length ≤ maxLen) (hlh : has.length ≤ maxLen) (hlw : wants.length ≤ maxLen)
    (hs : Sl 2 encInt2 w ao l) (hsh : Sl 1 encInt w bo has) (hsw : Sl 1 encBool w co wants) :
    Calls Try.prog 3 #[.slice ao l.length ca, .slice bo has.length cb, .slice co wants.length cc] w fun e w' => e = .returned (.bool true) ∧ Below w.heap.size w w' := by
  unfold maxLen at *
  by_cases h10 : l.length ≤ 10 ∧ has.length ≤ 10 ∧ wants.length ≤ 10
  · obtain ⟨hl, hh, hw⟩ := h10
    have e1 : decide (10 < (l.length : Int)) = false := by simp; omega
    have e2 : decide (10 < (has.length : Int)) = false := by simp; omega
    have e3 : decide (10 < (wants.length : Int)) = false := by simp; omega
    go_enter Try.func3, Try.ntmps3
    go_wp2_with (go_at_call 8; refine (turns_any _).mono ?_; rintro e w0 ⟨rfl, hb0⟩)
    refine (QueuesFault_any ao ca l _ (by omega) (hs.later hb0 (Nat.le_refl _))).mono ?_
    rintro e w1 ⟨rfl, rfl⟩
    go_wp2_with fail
    refine (Check_any ao ca l _ (by omega) (hs.later hb0 (Nat.le_refl _))).mono ?_
    rintro e w1 ⟨rfl, hb1⟩
    go_wp2_with fail
    refine (same_any _ _ _ (qfault_range l)).mono ?_
    rintro e w2 ⟨rfl, rfl⟩
    have hb2 : Below w.heap.size w w1 := hb0.trans (hb1.mono hb0.size)
    have hde : decide (qfault l = qfault l) = true := by simp
    rw [hde]
    clear hde hb1 hb0
    go_wp2
    go_loop [9] (fun i => ∃ k : Nat, k ≤ has.length ∧ i = .int .i64 k ∧ ∀ (i : Nat) n, i < k → has[i]? = some n → 0 ≤ n ∧ n ≤ 1000) (fun i => has.length - (intOf i).toNat)
    case atStart => exact ⟨0, by omega, rfl, fun i q h => absurd h (by omega)⟩
    case round =>
      obtain ⟨k, hk, rfl, hok⟩ := hrel
      by_cases hlt : k < has.length
      · obtain ⟨b1, off1, x, rfl, hbw1, hhk, c2⟩ := (hsh.later hb2 (Nat.le_refl _)).int hlt
        have Hhk := hide hhk; clear hhk
        have HOK := hide hok; clear hok
        go_wp2
        all_goals first
        | (go_ret; exact ⟨rfl, hb2⟩)
        | (go_round
           case rel => exact ⟨k+1, by omega, by go_num, fun i n hi hn => by
             by_cases e : i = k
             · subst e; rw [Hhk.out] at hn; cases hn; omega
             · exact HOK.out i n (by omega) hn⟩
           case measure => simp [intOf]; omega)
      · have hh9 : ∀ n ∈ has, 0 ≤ n ∧ n ≤ 1000 := fun n hn => by
          obtain ⟨i, hi⟩ := List.getElem?_of_mem hn
          exact hok i n (by have := (List.getElem?_eq_some_iff.1 hi).1; omega) hi
        clear hok
        by_cases hq : qfault l = 0
        · obtain ⟨q1, q2, q9⟩ := qfault_zero hq
          rw [hq]
          have HQ := hide hq; clear hq
          go_wp2
          clear hk hlt
          go_loopw [10] (fun i wr => ∃ k : Nat, k ≤ l.length ∧ i = .int .i64 k ∧ Below w.heap.size w wr) (fun i _ => l.length - (intOf i).toNat)
          case atStart => exact ⟨0, by omega, rfl, hb2⟩
          case round =>
            obtain ⟨k, hk, rfl, hnx⟩ := hrel
            by_cases hA : k + 1 < l.length
            · by_cases hB : k + 1 < has.length
              · obtain ⟨b0, off, w1, c1, rfl, hbw0, hl1, d0, d1⟩ := (hs.later hnx (Nat.le_refl _)).int2 (show k < l.length by omega)
                obtain ⟨_, _, w2, c2, e1, _, hl2, d2, d3⟩ := (hs.later hnx (Nat.le_refl _)).int2 hA
                cases e1
                obtain ⟨b1, off1, x, rfl, hbw1, hx1, d4⟩ := (hsh.later hnx (Nat.le_refl _)).int (show k < has.length by omega)
                obtain ⟨_, _, y, e1, _, hx2, d5⟩ := (hsh.later hnx (Nat.le_refl _)).int hB
                cases e1
                have n1 := hh9 x (List.mem_of_getElem? hx1)
                have n2 := hh9 y (List.mem_of_getElem? hx2)
                have n3 := q9 _ (List.mem_of_getElem? hl1)
                have n4 := q9 _ (List.mem_of_getElem? hl2)
                have k1 := mulb n1 n4; have k2 := mulb n2 n3
                clear hl1 hl2 hx1 hx2
                have f1 : decide ((k : Int) + 1 < (l.length : Int)) = true := by simp; omega
                have f2 : decide ((k : Int) + 1 < (has.length : Int)) = true := by simp; omega
                have f3 : (k : Int) < (l.length : Int) ∧ (k : Int) < (has.length : Int) ∧ (0 : Int) ≤ (k : Int) := by omega
                obtain ⟨f3, f4, f5⟩ := f3
                have f6 : (0 : Int) ≤ (k : Int) + 1 ∧ (k : Int) + 1 < (l.length : Int) ∧ (k : Int) + 1 < (has.length : Int) := by omega
                obtain ⟨f6, f7, f8⟩ := f6
                have wx : IntKind.i64.wrap (x * w2) = x * w2 := wrapP k1
                have wy : IntKind.i64.wrap (y * w1) = y * w1 := wrapP k2
                have wk2 : ((k : Int) + 1).toNat = k + 1 := by omega
                have wk : IntKind.i64.wrap ((k : Int) + 1) = (k : Int) + 1 := IntWalk.i64_in _ (by omega)
                go_wp2
                go_region_held3 (fun w' => w'.cell? ⟨b0, off + k * 2, none⟩ = some (.int .i64 w1) ∧ w'.cell? ⟨b0, off + k * 2 + 1, none⟩ = some (.int .i64 c1) ∧ w'.cell? ⟨b0, off + (k + 1) * 2, none⟩ = some (.int .i64 w2) ∧ w'.cell? ⟨b0, off + (k + 1) * 2 + 1, none⟩ = some (.int .i64 c2) ∧ w'.cell? ⟨b1, off1 + k, none⟩ = some (.int .i64 x) ∧ w'.cell? ⟨b1, off1 + (k + 1), none⟩ = some (.int .i64 y))
                  (first
                    | go_keep
                    | (go_split_ands; exact ⟨cell_later hb1 (by assumption), cell_later hb1 (by assumption), cell_later hb1 (by assumption), cell_later hb1 (by assumption), cell_later hb1 (by assumption), cell_later hb1 (by assumption)⟩))
                  ((go_at_call 12; refine (less_any _ _ _ _ _ _ _ n1 n2 n3 n4).mono ?_; rintro e w3 ⟨rfl, hb1⟩))
                clear wk wk2 wx wy
                have hne : (decide (x * w2 < y * w1) != decide (x * w2 < y * w1)) = false := by simp
                go_wp2
                go_roundw
                case rel => exact ⟨k+1, by omega, by go_num, (hnx.drew).trans (hb1.mono (by have := hnx.size; simp; omega))⟩
                case measure => simp [intOf]; omega
              · have f1 : decide ((k : Int) + 1 < (l.length : Int)) = true := by simp; omega
                have f2 : decide ((k : Int) + 1 < (has.length : Int)) = false := by simp; omega
                go_wp2_with (first
                  | (go_at_call 13; refine (Pick_any ao bo co ca cb cc l has wants _ (by omega) (by omega) (by omega) (hs.later hnx (Nat.le_refl _)) (hsh.later hnx (Nat.le_refl _)) (hsw.later hnx (Nat.le_refl _)) q9 hh9).mono ?_; rintro e w3 ⟨rfl, hb3⟩)
                  | (go_at_call 14; refine (Picked_any ao bo co ca cb cc l has wants _ (by omega) (by omega) (by omega) (hs.later (hnx.trans (hb3.mono hnx.size)) (Nat.le_refl _)) (hsh.later (hnx.trans (hb3.mono hnx.size)) (Nat.le_refl _)) (hsw.later (hnx.trans (hb3.mono hnx.size)) (Nat.le_refl _)) q9 hh9).mono ?_; rintro e w4 ⟨rfl, hb4⟩))
                go_ret
                have hn3 := hnx.trans (hb3.mono hnx.size)
                exact ⟨by simp, hn3.trans (hb4.mono hn3.size)⟩
            · have f1 : decide ((k : Int) + 1 < (l.length : Int)) = false := by simp; omega
              go_wp2_with (first
                  | (go_at_call 13; refine (Pick_any ao bo co ca cb cc l has wants _ (by omega) (by omega) (by omega) (hs.later hnx (Nat.le_refl _)) (hsh.later hnx (Nat.le_refl _)) (hsw.later hnx (Nat.le_refl _)) q9 hh9).mono ?_; rintro e w3 ⟨rfl, hb3⟩)
                  | (go_at_call 14; refine (Picked_any ao bo co ca cb cc l has wants _ (by omega) (by omega) (by omega) (hs.later (hnx.trans (hb3.mono hnx.size)) (Nat.le_refl _)) (hsh.later (hnx.trans (hb3.mono hnx.size)) (Nat.le_refl _)) (hsw.later (hnx.trans (hb3.mono hnx.size)) (Nat.le_refl _)) q9 hh9).mono ?_; rintro e w4 ⟨rfl, hb4⟩))
              go_ret
              have hn3 := hnx.trans (hb3.mono hnx.size)
              exact ⟨by simp, hn3.trans (hb4.mono hn3.size)⟩
        · have hq1 : 0 < qfault l := by have := qfault_range l; omega
          have HQ := hide hq; clear hq
          go_wp2
          go_ret
          exact ⟨rfl, hb2⟩
  · go_enter Try.func3, Try.ntmps3
    go_wp2_with (go_at_call 8; refine (turns_any _).mono ?_; rintro e w0 ⟨rfl, hb0⟩)
    all_goals first
    | (go_ret; exact ⟨rfl, hb0⟩)
    | (exfalso; omega)
    | skip
    go_ways
set_option maxRecDepth 100000 in
theorem QueueSays_lifted (os : Os) (started : os.Started) (H : Type) (enc : TypeId × Value → H) :
    ReturnsInHanded {} Try.checked os 3 .any (Rows.queueSaysSpec.pre6 enc Try.prog Try.f3 Rows.queueSaysRow.domain false) (Rows.queueSaysSpec.post enc Try.prog Try.f3 false true false false) := by
  refine returnsInHanded_of_change (C := Try.checked) own started (by kernel_rfl) Try.func3
    (ChangeSpec.witness6 (enc := enc) (C := Try.checked) false ⟨#[], #[.slice none 0 0, .slice none 0 0, .slice none 0 0], []⟩ 8 (by kernel_rfl) (by kernel_rfl) (by kernel_rfl) (by kernel_rfl)) ?_
  intro W base args ds gs before hval0 hW hcnd _
  have hval : ∀ (j : Nat) t v, Try.f3.params[j]? = some t → args[j]? = some v → Value.okWide Try.prog W .any base t v := hval0
  have hW' := hW
  obtain ⟨p, q, hA0, hV, rfl, hfz, hnd⟩ := hW
  have hA : DataW.TrodAll enc Try.prog W 0 (fun _ => true) true Try.f3.params.toList args.toList ds p := hA0
  rw [Try.params3] at hA hval
  obtain ⟨v0, vs0, d0, ds0, p0, q0, hargs, rfl, rfl, h0, r0⟩ := trodAll_cons hA
  obtain ⟨v1, vs1, d1, ds1, p1, q1, rfl, rfl, rfl, h1, r1⟩ := trodAll_cons r0
  obtain ⟨v2, vs2, d2, ds2, p2, q2, rfl, rfl, rfl, h2, r2⟩ := trodAll_cons r1
  obtain ⟨rfl, rfl, rfl⟩ := trodAll_nil r2
  obtain rfl : args = #[v0, v1, v2] := by cases args; simp_all
  obtain ⟨rfl, rfl⟩ := trodVars_none hV
  have lt0 : ∀ x ∈ p0, x.block < W.heap.size := by obtain ⟨m, hm⟩ := h0; exact DataW.trod_lt m _ _ _ hm
  have k0 := hval 0 22 v0 rfl rfl
  have g0 := h0
  have lt1 : ∀ x ∈ p1, x.block < W.heap.size := by obtain ⟨m, hm⟩ := h1; exact DataW.trod_lt m _ _ _ hm
  have k1 := hval 1 23 v1 rfl rfl
  have g1 := h1
  have lt2 : ∀ x ∈ p2, x.block < W.heap.size := by obtain ⟨m, hm⟩ := h2; exact DataW.trod_lt m _ _ _ hm
  have k2 := hval 2 24 v2 rfl rfl
  have g2 := h2
  clear hA0 hval0
  obtain ⟨ao, ca, l, rfl, hs0, hm0, _⟩ := open_sl Try.underlying22 cells_queue (by decide) el_queue (okWide_slice Try.underlying22 k0) h0
  obtain ⟨bo, cb, has, rfl, hs1, hm1, _⟩ := open_sl Try.underlying23 cells_int (by decide) el_int (okWide_slice Try.underlying23 k1) h1
  obtain ⟨co, cc, wants, rfl, hs2, hm2, _⟩ := open_sl Try.underlying24 cells_bool (by decide) el_bool (okWide_slice Try.underlying24 k2) h2
  refine (QueueSays_walk ao bo co ca cb cc l has wants W hm0 hm1 hm2 hs0 hs1 hs2).mono fun e W' ⟨he, bel⟩ => ?_
  subst he
  exact ⟨_, rfl, _, _, _, [], _, [], hW', trodAll_mk1 (shut_bool Try.underlying4 _), (trodAll_cons_mk (Below.trod laidOut (by kernel_rfl) (of_decide_eq_true (by kernel_rfl)) g0 bel lt0) (trodAll_cons_mk (Below.trod laidOut (by kernel_rfl) (of_decide_eq_true (by kernel_rfl)) g1 bel lt1) (trodAll_cons_mk (Below.trod laidOut (by kernel_rfl) (of_decide_eq_true (by kernel_rfl)) g2 bel lt2) trodAll_mk0))), rfl, bel.frame _, fun h => by cases h⟩

theorem QueueSays_holds : Rows.QueueSaysSaid :=
  OpenClaim.holds_of_wide 3 Try.f3 rfl rfl rfl rfl rfl rfl rfl ⟨rfl, rfl, rfl, rfl, rfl⟩ rfl rfl rfl rfl rfl (by kernel_rfl) Try.func3 (by kernel_rfl)
    (of_decide_eq_true (by kernel_rfl)) (by unfold Func.isWrapper; first | (rw [if_pos (by decide +kernel)]; kernel_rfl) | (rw [if_neg (by decide +kernel)]; exact ⟨rfl, rfl⟩))
    (fun os started H enc _ => QueueSays_lifted os started H enc)
#print axioms QueueSays_holds
end Go.Proofs.Ytllibbdgnjcchaa
