/- 'TopTurn' returns true for every input and leaves its arguments as they were; no condition. -/
import Derived.Test.YtllibbdgnjcchacPickLaw
import Derived.Test.YtllibbdgnjcchacOpen
namespace Go.Proofs.Ytllibbdgnjcchac
open Go.ChangeShapes Go.WideShapes Go.ChangeAt Go.RowKit

theorem getD_of {l : List (Int × Int)} {i : Nat} {q : Int × Int} (h : l[i]? = some q) : l.length > i := (List.getElem?_eq_some_iff.1 h).1

set_option maxRecDepth 100000 in
set_option maxHeartbeats 2000000 in
/-- The walk behind the two loops' guards: queues that may be, as many numbers and wishes, none out of bounds. -/
theorem TopTurn_walk (ao bo co : Option Addr) (ca cb cc : Nat) (l : List (Int × Int)) (has : List Int) (wants : List Bool) (w : World) (hlm : l.length ≤ maxLen) (hlh : has.length ≤ maxLen) (hlw : wants.length ≤ maxLen)
    (hs : Sl 2 encInt2 w ao l) (hsh : Sl 1 encInt w bo has) (hsw : Sl 1 encBool w co wants) :
    Calls Try.prog 3 #[.slice ao l.length ca, .slice bo has.length cb, .slice co wants.length cc] w fun e w' => e = .returned (.bool true) ∧ Below w.heap.size w w' := by
  unfold maxLen at *
  go_enter Try.func3, Try.ntmps3
  go_wp2_with fail
  refine (Pick_any (some ⟨w.heap.size, 0, none⟩) (some ⟨w.heap.size + 1, 0, none⟩) (some ⟨w.heap.size + 1 + 1, 0, none⟩) 1 1 1 [(1, 1)] [0] [true] _ (by decide) (by decide) (by decide) ?_ ?_ ?_ (by decide) (by decide)).mono ?_
  · exact Sl.lit (fun _ => rfl) (heap_old _ (heap_old _ (heap_new _ _))) rfl
  · exact Sl.lit (fun _ => rfl) (heap_old _ (heap_at (by simp))) rfl
  · exact Sl.lit (fun _ => rfl) (heap_at (by simp)) rfl
  rintro e w0 ⟨rfl, hb0'⟩
  have hp : pickTo [(1, 1)] [0] [true] [((1 : Int), (1 : Int))].length = 0 := by decide
  rw [hp]
  have hb0 : Below w.heap.size w w0 := ((((Below.refl _ _).alloc (Nat.le_refl _) _).alloc (by simp) _).alloc (by simp; omega) _).trans (hb0'.mono (by simp; omega))
  clear hb0' hp
  by_cases h10 : l.length ≤ 10
  · have e1 : decide (10 < (l.length : Int)) = false := by simp; omega
    go_wp2_with fail
    refine (Check_any ao ca l _ (by omega) (hs.later hb0 (Nat.le_refl _))).mono ?_
    rintro e w1 ⟨rfl, hb1⟩
    have hb2 : Below w.heap.size w w1 := hb0.trans (hb1.mono hb0.size)
    clear hb1 hb0
    by_cases hq : qfault l = 0
    · obtain ⟨q1, q2, q9⟩ := qfault_zero' hq
      have q90 : ∀ q ∈ l, 0 ≤ q.1 ∧ q.1 ≤ 9 := fun q h => by have := q9 q h; omega
      rw [hq, errV_zero]
      clear hq
      by_cases hA : has.length = l.length
      · by_cases hB : wants.length = l.length
        · have e2 : ((has.length : Int) != (l.length : Int)) = false := by simp [hA]
          have e3 : ((wants.length : Int) != (l.length : Int)) = false := by simp [hB]
          have HA := hide hA; have HB := hide hB; clear hA hB
          go_wp2
          go_loop [7] (fun i => ∃ k : Nat, k ≤ has.length ∧ i = .int .i64 k ∧ ∀ (i : Nat) n, i < k → has[i]? = some n → 0 ≤ n ∧ n ≤ 1000) (fun i => has.length - (intOf i).toNat)
          case atStart => exact ⟨0, by omega, rfl, fun i q h => absurd h (by omega)⟩
          case round =>
            obtain ⟨k, hk, rfl, hok⟩ := hrel
            by_cases hlt : k < has.length
            · obtain ⟨b1, off1, x, rfl, hbw1, hhk, c2⟩ := (hsh.later hb2 (Nat.le_refl _)).int hlt
              have Hhk := hide hhk; clear hhk
              have HOK := hide hok; clear hok
              have g1 : (k : Int) ≤ 4 := by have := HA.out; omega
              go_wp2
              all_goals first
              | (go_ret; exact ⟨rfl, hb2⟩)
              | (go_round
                 case rel => exact ⟨k+1, by omega, by go_num, fun i n hi hn => by
                   by_cases e : i = k
                   · subst e; rw [Hhk.out] at hn; cases hn; omega
                   · exact HOK.out i n (by omega) hn⟩
                 case measure => simp [intOf]; omega)
            · have hh9 : ∀ n ∈ has, 0 ≤ n ∧ n ≤ 1000 := fun n hn => by
                obtain ⟨i, hi⟩ := List.getElem?_of_mem hn
                exact hok i n (by have := (List.getElem?_eq_some_iff.1 hi).1; omega) hi
              clear hok
              have hbest := pick_best (l := l) (has := has) (wants := wants) (fun q h => (q9 q h).1) l.length
              have HBEST := hide hbest; clear hbest
              have lA : has.length ≤ 1000 := by have := HA.out; omega
              have lB : wants.length ≤ 1000 := by have := HB.out; omega
              go_wp2_with fail
              refine (Pick_any ao bo co ca cb cc l has wants _ (by omega) lA lB (hs.later hb2 (Nat.le_refl _)) (hsh.later hb2 (Nat.le_refl _)) (hsw.later hb2 (Nat.le_refl _)) q90 hh9).mono ?_
              rintro e w3 ⟨rfl, hb3⟩
              have hb4 := hb2.trans (hb3.mono hb2.size)
              clear hb3 hb2
              rcases HBEST.out with ⟨hbv, hno⟩ | ⟨m, y, v, d, hbv, hml, em, hall⟩
              · have HNO := hide hno; clear hno
                rw [hbv]; clear hbv HBEST
                have g1 : decide ((l.length : Int) ≤ -1) = false := by simp; omega
                go_wp2
                go_quiet (fail)
                go_wp2
                go_loopw [9] (fun i wr => ∃ k : Nat, k ≤ l.length ∧ i = .int .i64 k ∧ Below w.heap.size w wr) (fun i _ => l.length - (intOf i).toNat)
                case atStart => exact ⟨0, by omega, rfl, below_drewN hb4 _⟩
                case round =>
                  obtain ⟨k, hk, rfl, hnx⟩ := hrel
                  by_cases hlt : k < l.length
                  · obtain ⟨b0, off, wt, cp, rfl, hbw, hlk, c0, c1⟩ := (hs.later hnx (Nat.le_refl _)).int2 hlt
                    obtain ⟨b1, off1, x, rfl, hbw1, hhk, c2⟩ := (hsh.later hnx (Nat.le_refl _)).int (show k < has.length by have := HA.out; omega)
                    obtain ⟨b2, off2, wn, rfl, hbw2, hwk, c3⟩ := (hsw.later hnx (Nat.le_refl _)).bool (show k < wants.length by have := HB.out; omega)
                    have Hhk := hide hhk; have Hwk := hide hwk; have Hlk := hide hlk; clear hhk hwk hlk
                    have f1 : (0 : Int) ≤ (k : Int) ∧ (k : Int) < (l.length : Int) ∧ (k : Int) < (has.length : Int) ∧ (k : Int) < (wants.length : Int) := by have := HA.out; have := HB.out; omega
                    obtain ⟨f1, f2, f3, f4⟩ := f1
                    cases wn
                    · go_wp2
                      go_quiet (fail)
                      go_wp2
                      go_roundw
                      case rel => exact ⟨k+1, by omega, by go_num, below_drewN hnx _⟩
                      case measure => simp [intOf]; omega
                    · by_cases hC : cp ≤ x
                      · have hC1 : decide (cp ≤ x) = true := by simpa using hC
                        go_wp2
                        go_quiet (fail)
                        go_wp2
                        go_roundw
                        case rel => exact ⟨k+1, by omega, by go_num, below_drewN hnx _⟩
                        case measure => simp [intOf]; omega
                      · exact absurd ⟨Hhk.out, Hlk.out, Hwk.out, by omega⟩ (HNO.out k x wt cp hlt)
                  · go_wp2
                    go_ret
                    exact ⟨rfl, hnx⟩
              · obtain ⟨b0, off, _, _, rfl, _, e1, d0, d1⟩ := (hs.later hb4 (Nat.le_refl _)).int2 (show m < l.length by omega)
                rw [em.eb] at e1; cases e1
                obtain ⟨b1, off1, _, rfl, _, e1, d2⟩ := (hsh.later hb4 (Nat.le_refl _)).int (show m < has.length by have := HA.out; omega)
                rw [em.ea] at e1; cases e1
                obtain ⟨b2, off2, _, rfl, _, e1, d3⟩ := (hsw.later hb4 (Nat.le_refl _)).bool (show m < wants.length by have := HB.out; omega)
                rw [em.ec] at e1; cases e1
                have HALL := hide hall; clear hall
                have hyd := em.ed
                have hv9 := q9 _ (List.mem_of_getElem? em.eb)
                have hy9 := hh9 _ (List.mem_of_getElem? em.ea)
                have HEM := hide em; clear em
                rw [hbv]; clear hbv HBEST
                have g1 : decide (l.length ≤ m) = false := by simp; omega
                have g2 : decide (d ≤ y) = false := by simp; omega
                have g3 : (0 : Int) ≤ (m : Int) ∧ (m : Int) < (l.length : Int) ∧ (m : Int) < (has.length : Int) ∧ (m : Int) < (wants.length : Int) := by have := HA.out; have := HB.out; omega
                obtain ⟨g3, g4, g5, g6⟩ := g3
                go_wp2
                go_quiet (fail)
                go_wp2
                go_loopw [9] (fun i wr => ∃ k : Nat, k ≤ l.length ∧ i = .int .i64 k ∧ Below w.heap.size w wr) (fun i _ => l.length - (intOf i).toNat)
                case atStart => exact ⟨0, by omega, rfl, below_drewN hb4 _⟩
                case round =>
                  clear d0 d1 d2 d3
                  obtain ⟨k, hk, rfl, hnx⟩ := hrel
                  by_cases hlt : k < l.length
                  · obtain ⟨_, _, wt, cp, e1, hbw, hlk, c0, c1⟩ := (hs.later hnx (Nat.le_refl _)).int2 hlt
                    cases e1
                    obtain ⟨_, _, x, e1, hbw1, hhk, c2⟩ := (hsh.later hnx (Nat.le_refl _)).int (show k < has.length by have := HA.out; omega)
                    cases e1
                    obtain ⟨_, _, wn, e1, hbw2, hwk, c3⟩ := (hsw.later hnx (Nat.le_refl _)).bool (show k < wants.length by have := HB.out; omega)
                    cases e1
                    obtain ⟨_, _, _, _, e1, _, e2, d0, d1⟩ := (hs.later hnx (Nat.le_refl _)).int2 (show m < l.length by omega)
                    cases e1
                    rw [HEM.out.eb] at e2; cases e2
                    obtain ⟨_, _, _, e1, _, e2, d2⟩ := (hsh.later hnx (Nat.le_refl _)).int (show m < has.length by have := HA.out; omega)
                    cases e1
                    rw [HEM.out.ea] at e2; cases e2
                    have hx9 := hh9 _ (List.mem_of_getElem? hhk)
                    have ht9 := q9 _ (List.mem_of_getElem? hlk)
                    have Hhk := hide hhk; have Hwk := hide hwk; have Hlk := hide hlk; clear hhk hwk hlk
                    have f1 : (0 : Int) ≤ (k : Int) ∧ (k : Int) < (l.length : Int) ∧ (k : Int) < (has.length : Int) ∧ (k : Int) < (wants.length : Int) := by have := HA.out; have := HB.out; omega
                    obtain ⟨f1, f2, f3, f4⟩ := f1
                    cases wn
                    · go_wp2
                      go_quiet (fail)
                      go_wp2
                      go_roundw
                      case rel => exact ⟨k+1, by omega, by go_num, below_drewN hnx _⟩
                      case measure => simp [intOf]; omega
                    · by_cases hC : cp ≤ x
                      · have hC1 : decide (cp ≤ x) = true := by simpa using hC
                        go_wp2
                        go_quiet (fail)
                        go_wp2
                        go_roundw
                        case rel => exact ⟨k+1, by omega, by go_num, below_drewN hnx _⟩
                        case measure => simp [intOf]; omega
                      · have hC1 : decide (cp ≤ x) = false := by simpa using hC
                        have hng := HALL.out k x wt cp hlt ⟨Hhk.out, Hlk.out, Hwk.out, by omega⟩
                        have hng1 : decide (x * v < y * wt) = false := by simpa using hng
                        have HNG := hide hng; clear hng
                        have hm0 : decide ((m : Int) < 0) = false := by simp
                        have kb1 := mulb hx9 ⟨by omega, hv9.2.1⟩
                        have kb2 := mulb hy9 ⟨by omega, ht9.2.1⟩
                        go_wp2
                        go_quiet (fail)
                        go_wp2
                        go_quiet (fail)
                        go_wp2
                        go_roundw
                        case rel => exact ⟨k+1, by omega, by go_num, below_drewN hnx _⟩
                        case measure => simp [intOf]; omega
                  · go_wp2
                    go_ret
                    exact ⟨rfl, hnx⟩
        · have e2 : ((has.length : Int) != (l.length : Int)) = false := by simp [hA]
          have e3 : ((wants.length : Int) != (l.length : Int)) = true := by simp; omega
          clear hA hB
          go_wp2
          go_ret
          exact ⟨rfl, hb2⟩
      · have e2 : ((has.length : Int) != (l.length : Int)) = true := by simp; omega
        clear hA
        go_wp2
        go_ret
        exact ⟨rfl, hb2⟩
    · rw [errV_pos hq]
      clear hq
      go_wp2
      go_ret
      exact ⟨rfl, hb2⟩
  · have e1 : decide (10 < (l.length : Int)) = true := by simp; omega
    go_wp2
    go_ret
    exact ⟨rfl, hb0⟩
set_option maxRecDepth 100000 in
theorem TopTurn_lifted (os : Os) (started : os.Started) (H : Type) (enc : TypeId × Value → H) :
    ReturnsInHanded {} Try.checked os 3 .any (Rows.topTurnSpec.pre6 enc Try.prog Try.f3 Rows.topTurnRow.domain false) (Rows.topTurnSpec.post enc Try.prog Try.f3 false true false false) := by
  refine returnsInHanded_of_change (C := Try.checked) own started (by kernel_rfl) Try.func3
    (ChangeSpec.witness6 (enc := enc) (C := Try.checked) false ⟨#[], #[.slice none 0 0, .slice none 0 0, .slice none 0 0], []⟩ 8 (by kernel_rfl) (by kernel_rfl) (by kernel_rfl) (by kernel_rfl)) ?_
  intro W base args ds gs before hval0 hW hcnd _
  have hval : ∀ (j : Nat) t v, Try.f3.params[j]? = some t → args[j]? = some v → Value.okWide Try.prog W .any base t v := hval0
  have hW' := hW
  obtain ⟨p, q, hA0, hV, rfl, hfz, hnd⟩ := hW
  have hA : DataW.TrodAll enc Try.prog W 0 (fun _ => true) true Try.f3.params.toList args.toList ds p := hA0
  rw [Try.params3] at hA hval
  obtain ⟨v0, vs0, d0, ds0, p0, q0, hargs, rfl, rfl, h0, r0⟩ := trodAll_cons hA
  obtain ⟨v1, vs1, d1, ds1, p1, q1, rfl, rfl, rfl, h1, r1⟩ := trodAll_cons r0
  obtain ⟨v2, vs2, d2, ds2, p2, q2, rfl, rfl, rfl, h2, r2⟩ := trodAll_cons r1
  obtain ⟨rfl, rfl, rfl⟩ := trodAll_nil r2
  obtain rfl : args = #[v0, v1, v2] := by cases args; simp_all
  obtain ⟨rfl, rfl⟩ := trodVars_none hV
  have lt0 : ∀ x ∈ p0, x.block < W.heap.size := by obtain ⟨m, hm⟩ := h0; exact DataW.trod_lt m _ _ _ hm
  have k0 := hval 0 22 v0 rfl rfl
  have g0 := h0
  have lt1 : ∀ x ∈ p1, x.block < W.heap.size := by obtain ⟨m, hm⟩ := h1; exact DataW.trod_lt m _ _ _ hm
  have k1 := hval 1 23 v1 rfl rfl
  have g1 := h1
  have lt2 : ∀ x ∈ p2, x.block < W.heap.size := by obtain ⟨m, hm⟩ := h2; exact DataW.trod_lt m _ _ _ hm
  have k2 := hval 2 24 v2 rfl rfl
  have g2 := h2
  clear hA0 hval0
  obtain ⟨ao, ca, l, rfl, hs0, hm0, _⟩ := open_sl Try.underlying22 cells_queue (by decide) el_queue (okWide_slice Try.underlying22 k0) h0
  obtain ⟨bo, cb, has, rfl, hs1, hm1, _⟩ := open_sl Try.underlying23 cells_int (by decide) el_int (okWide_slice Try.underlying23 k1) h1
  obtain ⟨co, cc, wants, rfl, hs2, hm2, _⟩ := open_sl Try.underlying24 cells_bool (by decide) el_bool (okWide_slice Try.underlying24 k2) h2
  refine (TopTurn_walk ao bo co ca cb cc l has wants W hm0 hm1 hm2 hs0 hs1 hs2).mono fun e W' ⟨he, bel⟩ => ?_
  subst he
  exact ⟨_, rfl, _, _, _, [], _, [], hW', trodAll_mk1 (shut_bool Try.underlying4 _), (trodAll_cons_mk (Below.trod laidOut (by kernel_rfl) (of_decide_eq_true (by kernel_rfl)) g0 bel lt0) (trodAll_cons_mk (Below.trod laidOut (by kernel_rfl) (of_decide_eq_true (by kernel_rfl)) g1 bel lt1) (trodAll_cons_mk (Below.trod laidOut (by kernel_rfl) (of_decide_eq_true (by kernel_rfl)) g2 bel lt2) trodAll_mk0))), rfl, bel.frame _, fun h => by cases h⟩

theorem TopTurn_holds : Rows.TopTurnSaid :=
  OpenClaim.holds_of_wide 3 Try.f3 rfl rfl rfl rfl rfl rfl rfl ⟨rfl, rfl, rfl, rfl, rfl⟩ rfl rfl rfl rfl rfl (by kernel_rfl) Try.func3 (by kernel_rfl)
    (of_decide_eq_true (by kernel_rfl)) (by unfold Func.isWrapper; first | (rw [if_pos (by decide +kernel)]; kernel_rfl) | (rw [if_neg (by decide +kernel)]; exact ⟨rfl, rfl⟩))
    (fun os started H enc _ => TopTurn_lifted os started H enc)
#print axioms TopTurn_holds
end Go.Proofs.Ytllibbdgnjcchac
