/- slices.Clone at pairs; the reference Sorted. -/
import Derived.Test.YtafogaopccajaaaDoorApp2
import Derived.Test.YtafogaopccajaaaDoorSortLaw2
import Derived.Test.YtafogaopccajaaaDoorOpen
import Derived.Lib.SliceRun
set_option linter.unusedSimpArgs false
set_option linter.unusedVariables false
namespace Go.Proofs.YtafogaopccajaaaDoor
open Go.RowKit

set_option maxHeartbeats 1000000 in
theorem ClonePr_any (ao : Option Addr) (cap : Nat) (l : List Pr) (w : World) (hl : l.length ≤ 1000000000) (hs : Sl 2 encP w ao l) :
    Calls Tryd.prog 36 #[.slice ao l.length cap] w fun e w' => ∃ v, e = .returned v ∧ Own 2 encP 54 w' w.heap.size v l ∧ Below w.heap.size w w' := by
  obtain ⟨i0, hi, hz0, hz1, hz2⟩ := info_parts infoPr
  have hen : ∀ w : World, (binOp .eql 30 (.slice ao l.length cap) (.slice none 0 0)).run Tryd.prog w = .ok (.bool ao.isNone) w := fun w => Lib.run_eql_slice_nil w _ _ _ _ _ _ _ Tryd.underlying30
  cases ao with
  | none =>
    have h0 : l = [] := by
      rcases Nat.eq_zero_or_pos l.length with e | e
      · exact List.length_eq_zero_iff.1 e
      · obtain ⟨b, off, e', _⟩ := hs e; cases e'
    subst h0
    have hen' : ∀ w : World, (binOp .eql 30 (.slice none 0 cap) (.slice none 0 0)).run Tryd.prog w = .ok (.bool true) w := hen
    clear hen
    go_enter Tryd.func36, Tryd.ntmps36
    go_wp2
    go_ret
    exact ⟨_, rfl, Own.nil, Below.refl _ _⟩
  | some ad =>
    have hen' : ∀ w : World, (binOp .eql 30 (.slice (some ad) l.length cap) (.slice none 0 0)).run Tryd.prog w = .ok (.bool false) w := hen
    clear hen
    have hnews := Sl.cellsA encP_len (by decide) hs
    go_enter Tryd.func36, Tryd.ntmps36
    have ow0 : Own 2 encP 54 (w.alloc (.cells #[] 54)) w.heap.size (.slice (some ⟨w.heap.size, 0, none⟩) 0 0) ([] : List Pr) := Own.lit (l := []) encP_len (heap_new _ _) (Nat.le_refl _) rfl (by simp)
    have hnews2 : ∀ (j : Nat) (u : Value), (l.flatMap encP)[j]? = some u → (w.alloc (.cells #[] 54)).cell? (ad.add j) = some u := fun j u h => cell_later ((Below.refl _ _).alloc (Nat.le_refl _) _) (hnews j u h)
    have HN := hide hnews2
    clear hnews hnews2
    go_wp2_with (at_builtin; refine wpList_append_list encP_len _ _ 30 i0 _ rfl rfl Tryd.underlying30 hi hz0 hz1 hz2 rfl (by decide) (by decide) ow0 ((Below.refl w.heap.size w).alloc (Nat.le_refl _) _) ?c1 l ?c2 rfl ad cap l.length rfl rfl HN.out (one_flat one_pair) ?_)
    case c1 => simp
    case c2 => simp; omega
    intro v' w1 ho hb _ _
    go_wp2
    go_ret
    exact ⟨v', rfl, by simpa using ho, hb⟩

set_option maxHeartbeats 4000000 in
theorem RefSorted_any (ao : Option Addr) (cap : Nat) (l : List Pr) (w : World) (hl : l.length ≤ 1000000000) (hs : Sl 2 encP w ao l) :
    Calls Tryd.prog 46 #[.slice ao l.length cap] w fun e w' => ∃ v, e = .returned v ∧ Own 2 encP 54 w' w.heap.size v (srt l) ∧ Below w.heap.size w w' := by
  obtain ⟨i0, hi, hz0, hz1, hz2⟩ := info_parts infoPr
  rcases Nat.eq_zero_or_pos l.length with h0 | h0
  · obtain rfl := List.length_eq_zero_iff.1 h0
    cases ao with
    | none =>
      go_enter Tryd.func46, Tryd.ntmps46
      go_wp2
      go_loopw [4] (fun p wr => p = .int .i64 1 ∧ w = wr) (fun _ _ => 0)
      case atStart => exact ⟨rfl, rfl⟩
      case round =>
        obtain ⟨rfl, rfl⟩ := hrel
        go_wp2
        go_ret
        exact ⟨_, rfl, Own.nil, Below.refl _ _⟩
    | some ad =>
      have HN := hide (Sl.cellsA encP_len (by decide) hs)
      go_enter Tryd.func46, Tryd.ntmps46
      go_wp2_with (at_builtin; refine wpList_append_list encP_len _ _ 30 i0 _ rfl rfl Tryd.underlying30 hi hz0 hz1 hz2 rfl (by decide) (by decide) (Own.nil (base := w.heap.size)) (Below.refl w.heap.size w) (Nat.le_refl _) ([] : List Pr) ?c2 rfl ad cap 0 rfl rfl HN.out (one_flat one_pair) ?_)
      case c2 => simp
      intro v' w1 ho hb1 _ _
      have ho' : Own 2 encP 54 w1 w.heap.size v' ([] : List Pr) := ho
      obtain ⟨ao', cap', rfl⟩ := ho'.1
      have HO := hide ho'
      clear ho ho' hi hz0 hz1 hz2
      go_wp2
      go_loopw [4] (fun p wr => p = .int .i64 1 ∧ w1 = wr) (fun _ _ => 0)
      case atStart => exact ⟨rfl, rfl⟩
      case round =>
        obtain ⟨rfl, rfl⟩ := hrel
        go_wp2
        go_ret
        exact ⟨_, rfl, HO.out, hb1⟩
  · obtain ⟨b, off, rfl, hbw, _⟩ := hs h0
    have hnews := Sl.cells encP_len (by decide) hs
    have HN := hide hnews
    clear hnews
    go_enter Tryd.func46, Tryd.ntmps46
    go_wp2_with (at_builtin; refine wpList_append_list encP_len _ _ 30 i0 _ rfl rfl Tryd.underlying30 hi hz0 hz1 hz2 rfl (by decide) (by decide) (Own.nil (base := w.heap.size)) (Below.refl w.heap.size w) (Nat.le_refl _) l ?c2 rfl ⟨b, off, none⟩ cap l.length rfl rfl HN.out (one_flat one_pair) ?_)
    case c2 => simp; omega
    intro v' w1 ho hb1 _ _
    have ho : Own 2 encP 54 w1 w.heap.size v' l := ho
    obtain ⟨g, cp, rfl, hg, _, _, _⟩ := ho.addr h0
    have HO := hide ho
    have HB := hide hb1
    clear ho hb1 hi hz0 hz1 hz2
    go_wp2
    go_loopw [4] (fun p wr => ∃ k : Nat, k < l.length ∧ p = .int .i64 ((k : Int) + 1) ∧ Below w.heap.size w wr ∧ OwnP wr w.heap.size g l.length cp (insTo l 0 k)) (fun p _ => l.length + 1 - (intOf p).toNat)
    case atStart => exact ⟨0, by omega, by go_num, HB.out, HO.out⟩
    case round =>
      obtain ⟨k, hk, rfl, hbl, hown⟩ := hrel
      by_cases hlt : k + 1 < l.length
      · have hll := insTo_len l 0 k
        have hR : Hid (sink (insTo l 0 k) 0 (0 + 1 + k) = insTo l 0 (k + 1)) := rfl
        rw [show 0 + 1 + k = k + 1 by omega] at hR
        have HL := hide hll
        generalize insTo l 0 k = cur0 at *
        generalize hRe : insTo l 0 (k + 1) = R at *
        have HRe := hide hRe
        have HBL := hide hbl
        have HOWN := hide hown
        clear hRe hll hbl hown
        obtain ⟨wo, hwo⟩ : ∃ wo : World, wo = wr := ⟨wr, rfl⟩
        subst hwo
        have f0 : decide ((k : Int) + 1 < (l.length : Int)) = true := by simp; omega
        go_wp2
        clear f0
        go_loopw [5] (fun i wr => ∃ j : Nat, ∃ cur, j < l.length ∧ i = .int .i64 j ∧ Hid (sink cur 0 j = R) ∧ Hid (cur.length = l.length) ∧ Below w.heap.size w wr ∧ OwnP wr w.heap.size g l.length cp cur) (fun i _ => (intOf i).toNat)
        case atStart => exact ⟨k + 1, cur0, by omega, by go_num, hR, HL, HBL.out, HOWN.out⟩
        case round =>
          obtain ⟨j, cur, hj, rfl, hS, hC, hbl, hown⟩ := hrel
          by_cases hja : 0 < j
          · obtain ⟨j', rfl⟩ : ∃ j', j = j' + 1 := ⟨j - 1, by omega⟩
            obtain ⟨x, hx⟩ := get_some (l := cur) (i := j' + 1) (by rw [hC.out]; omega)
            obtain ⟨y, hy⟩ := get_some (l := cur) (i := j') (by rw [hC.out]; omega)
            obtain ⟨x0, x1, xz, xz', _⟩ := OwnP.at hown hx
            obtain ⟨y0, y1, yz, yz', _⟩ := OwnP.at hown hy
            have HX := hide hx
            have HY := hide hy
            have HOW := hide hown
            have HB2 := hide hbl
            have hgs := (hown.lt g rfl).2
            clear hx hy hown hbl
            have f1 : (0 : Int) ≤ (j' : Int) + 1 ∧ (j' : Int) + 1 < (l.length : Int) ∧ (0 : Int) ≤ (j' : Int) ∧ (j' : Int) < (l.length : Int) := by omega
            obtain ⟨f1, f2, f3, f4⟩ := f1
            have f5 : decide ((0 : Int) < (j' : Int) + 1) = true := by (simp; try omega)
            have f6 : IntKind.i64.wrap (j' : Int) = (j' : Int) := IntWalk.i64_in _ (by omega)
            have f7 : ((j' : Int) + 1).toNat = j' + 1 := by omega
            have hsk : Hid (klt x y = true → sink (swapAt cur (j' + 1) j') 0 j' = R) := fun hk => by rw [← sink_go HX.out HY.out hja hk]; exact hS.out
            have hss : Hid (klt x y = false → cur = R) := fun hk => by rw [← hS.out, sink_stop HX.out HY.out hk]
            cases hk2 : klt x y
            · have HE := hide (hss.out hk2)
              have hk3 : Op.bytesLess x.1.toList y.1.toList = false := hk2
              clear hk2 hsk hss
              go_wp2
              go_quiet (fail)
              have HE1 := HE.out
              subst HE1
              clear f5 f6 f7 hS
              go_wp2
              go_roundw
              case rel => exact ⟨k + 1, by omega, by go_num, below_drewN HB2.out _, by rw [HRe.out]; exact HOW.out.drewN _⟩
              case measure => (simp [intOf]; try omega)
            · have HE := hide (hsk.out hk2)
              have hk3 : Op.bytesLess x.1.toList y.1.toList = true := hk2
              have HCL := hide (show (swapAt cur (j' + 1) j').length = l.length by rw [swapAt_len]; exact hC.out)
              clear hk2 hsk hss
              go_wp2
              go_quiet (fail)
              have ho1 := HOW.out.drewN nq
              have hb1 := below_drewN HB2.out nq
              clear x0 x1 y0 y1 xz xz' yz yz' HB HO f5 f6 f7
              revert ho1 hb1
              generalize wr.drewN nq = wq
              intro ho1 hb1
              obtain ⟨x0, x1, xz, xz', _⟩ := OwnP.at ho1 HX.out
              obtain ⟨y0, y1, yz, yz', _⟩ := OwnP.at ho1 HY.out
              have hgq := (Own.lt ho1 g rfl).2
              have hk0 := swap_kept wq g (j' + 1) j' x y
              have hb2 := hb1.trans (hk0.below (B := w.heap.size) (fun q e => by omega) hb1.size)
              have HS := hide (Own.alloc (OwnP.swap ho1 HX.out HY.out) (.cells #[.string x.1, .int .i64 x.2] 54))
              have HK := hide (hb2.alloc hb2.size (.cells #[.string x.1, .int .i64 x.2] 54))
              clear hk0 hb2 ho1 hb1
              go_wp2
              go_roundw
              case rel => exact ⟨j', _, by omega, by go_num, HE, HCL, HK.out, HS.out⟩
              case measure => (simp [intOf]; try omega)
          · have f5 : decide ((0 : Int) < (j : Int)) = false := by simp; omega
            have f5' : decide (0 < j) = false := by simp; omega
            have HE : Hid (cur = R) := by show cur = R; rw [← hS.out, sink_lo (by omega)]
            go_wp2
            go_quiet (fail)
            have HE1 := HE.out
            subst HE1
            clear hS
            go_wp2
            go_roundw
            case rel => exact ⟨k + 1, by omega, by go_num, below_drewN hbl _, by rw [HRe.out]; exact hown.drewN _⟩
            case measure => (simp [intOf]; try omega)
      · have HE : Hid (insTo l 0 k = srt l) := by
          show _ = _
          rw [insTo_at l 0 k (by omega)]
          unfold sortSeg
          rw [show 0 + 1 + k = l.length by omega, seg_out (Nat.le_refl _)]
          simp
        go_wp2
        go_ret
        exact ⟨_, rfl, by rw [← HE.out]; exact hown, hbl⟩
end Go.Proofs.YtafogaopccajaaaDoor
