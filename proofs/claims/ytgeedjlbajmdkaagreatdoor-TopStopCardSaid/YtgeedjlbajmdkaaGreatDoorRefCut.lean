/- The reference: Cut: the slices of pairs. -/
import Derived.Test.YtgeedjlbajmdkaaGreatDoorMSlices
import Derived.Test.YtgeedjlbajmdkaaGreatDoorOrder2
import Derived.Test.YtgeedjlbajmdkaaGreatDoorRefFold
import Derived.Test.YtgeedjlbajmdkaaGreatDoorPair3
set_option linter.unusedSimpArgs false
set_option linter.unusedVariables false
namespace Go.Proofs.YtgeedjlbajmdkaaGreatDoor
open Go.RowKit

set_option maxRecDepth 100000 in
set_option maxHeartbeats 4000000 in
theorem RefCut_any (ro : Option Addr) (rn rc : Nat) (fold : Int) (many : Nat) (early : Bool) (ao : Option Addr) (cap : Nat) (L : List Pr) (w : World) (hm : 1 ≤ many ∧ many ≤ 1000) (hln : L.length ≤ 100000000) (hks : ∀ p ∈ L, p.1.size ≤ maxLen) (hs : Sl 2 encP w ao L) :
    Calls Tryz.prog 29 #[.agg #[.slice ro rn rc, .int .i64 fold, .bool early, .int .i64 many], .slice ao L.length cap] w fun e w' => ∃ ob vs, e = .returned (.slice (some ⟨ob, 0, none⟩) many many) ∧ Rws w' (w.heap.size + 1) ob vs (cutP fold early many L) ∧ Below w.heap.size w w' := by
  obtain ⟨i0, hi0, hz0, hz1, hz2⟩ := info_parts infoPair
  obtain ⟨i1, hi1, hy0, hy1, hy2⟩ := info_parts infoRows
  obtain ⟨W, hW⟩ : ∃ W, W = w.alloc (.cells #[.slice ro rn rc, .int .i64 fold, .bool early, .int .i64 many] 24) := ⟨_, rfl⟩
  have hb0 : Below w.heap.size w W := by rw [hW]; exact (Below.refl _ _).alloc (Nat.le_refl _) _
  have hbj : Bk W w.heap.size [.slice ro rn rc, .int .i64 fold, .bool early, .int .i64 many] := by rw [hW]; exact Bk.new rfl
  have hz : W.heap.size = w.heap.size + 1 := by rw [hW]; simp
  have HSG := hide hbj
  have HS := hide (hs.later hb0 (Nat.le_refl _))
  have HB0 := hide hb0
  have HW := hide hW
  have HKS := hide hks
  have HJB : Hid (w.heap.size < W.heap.size) := by show _ < _; omega
  rw [← hz]
  clear hb0 hbj hW hs hks hz
  have c3 := HSG.out.get (j := 3) rfl
  go_enter Tryz.func29, Tryz.ntmps29
  go_upto_region 1 with (fail)
  rw [← HW.out]
  clear HW
  go_wp2_with (refine wpList_make_list (enc := encV) (fun _ => rfl) _ _ 59 i1 _ (.slice none 0 0) many rfl rfl Tryz.underlying59 hi1 hy0 hy1 rfl rfl (by rw [hy2]; decide) rfl rfl (by omega) (Below.refl W.heap.size W) (Nat.le_refl _) ?_)
  intro w1 ho hbl hb1
  have HBK := hide (bk_of_own ho)
  have HB1 := hide hbl
  have HOS1 := hide (HS.out.later hbl (Nat.le_refl _))
  have HZ1 : Hid (W.heap.size < w1.heap.size) := hb1
  clear ho hbl hb1 HS c3
  have HSO := hide (RefSorted_any ao cap L w1 (by omega) HOS1.out)
  go_wp2_with fail
  refine HSO.out.mono ?_
  rintro e w2 ⟨sv, rfl, os, b2⟩
  obtain ⟨sa, sc, rfl⟩ := id os.1
  have HS2 := hide (os.sl encP_len)
  have HSB : Hid (∀ b o, sa = some ⟨b, o, none⟩ → b ≠ W.heap.size ∧ b < w2.heap.size) := fun b o e => by
    subst e
    have h1 := os.lt b rfl
    have h2 := HZ1.out
    exact ⟨by omega, h1.2⟩
  have HB2 := hide (HB1.out.trans (b2.mono HB1.out.size))
  have HRW : Hid (Rws w2 W.heap.size W.heap.size (List.replicate many (.slice none 0 0)) (List.replicate many [])) := Rws.made (HBK.out.later b2) (Nat.le_refl _)
  have hsl : (srt L).length ≤ 100000000 := by rw [srt_len]; exact hln
  have HKK : Hid (∀ p ∈ srt L, p.1.size ≤ maxLen) := fun p hp => HKS.out p ((srt_perm L).subset hp)
  have hCU1 := cutP_false (fold := fold) (many := many) L
  have hCU2 := cutP_true (fold := fold) (many := many) L
  have HC1 := hide hCU1
  have HC2 := hide hCU2
  clear os b2 HSO HBK HB1 HOS1 HKS hCU1 hCU2
  generalize srt L = S at *
  have HD0 : Hid (MDeal w2 w2 W.heap.size W.heap.size sa S (List.replicate many (.slice none 0 0)) (cutTo many [])) := by
    rw [cutTo_nil]
    exact ⟨HRW.out, fun i v q hv hq => by rw [(List.mem_replicate.1 (List.mem_of_getElem? hv)).2] at hq; simp [Value.ownBlock] at hq, HS2.out, HSB.out, Nat.le_refl _⟩
  clear HRW HS2 HSB HZ1
  go_wp2
  go_loopw [7] (fun iv wr => ∃ (k : Nat) (vs : List Value), k ≤ S.length ∧ iv = .int .i64 k ∧ Hid (MDeal w2 wr W.heap.size W.heap.size sa S vs (cutTo many (S.take k))) ∧ Hid (Below W.heap.size W wr)) (fun iv _ => S.length - (intOf iv).toNat)
  case atStart => exact ⟨0, _, by omega, rfl, HD0, HB2⟩
  case round =>
    clear HD0 HB2
    obtain ⟨k, vs, hk, rfl, HD, HB⟩ := hrel
    have HG := hide (HSG.out.later HB.out)
    by_cases hlt : k < S.length
    · obtain ⟨b, off, x, y, rfl, hbw, hlk, d0, d1⟩ := HD.out.sl.pair hlt
      have hx := HKK.out _ (List.mem_of_getElem? hlk)
      have HTK : Hid (S.take (k + 1) = S.take k ++ [(x, y)]) := by
        obtain ⟨hl1, hx1⟩ := List.getElem?_eq_some_iff.1 hlk
        show _ = _
        rw [List.take_succ_eq_append_getElem hl1, hx1]
      have f1 : (0 : Int) ≤ (k : Int) ∧ (k : Int) < (S.length : Int) := by omega
      obtain ⟨f1, f2⟩ := f1
      clear hlk
      dsimp only at hx
      obtain ⟨kk, hkk⟩ : ∃ kk : Nat, sliceB x many = (kk : Int) := ⟨(sliceB x many).toNat, by have := (sliceB_bd x many).1; omega⟩
      have hkm : kk < many := by have := (sliceB_bd x many).2; omega
      have HCS : Hid (cutTo many (S.take k ++ [(x, y)]) = (cutTo many (S.take k)).set kk ((S.take k).filter (inSlice many kk) ++ [(x, y)])) := by
        have h := cutTo_snoc hm.1 (S.take k) (x, y)
        dsimp only at h
        rw [hkk, Int.toNat_natCast] at h
        exact h
      have HSI := hide fun w' => SliceOf_any x (many : Int) w' hx (by omega)
      rw [hkk] at HSI
      clear hkk
      have q0 := cell_regrown d0
      have q3 := cell_regrown (HG.out.get (j := 3) rfl)
      go_upto_region 6 with (fail)
      refine wp_region_quiet_below (by kernel_rfl) (by kernel_rfl) ?_
      repeat (go_big_quiet_step (first | (go_at_call 71; exact regrown_same (HSI.out _))))
      refine wpQuiet_nil ?_
      intro _ hw'
      obtain ⟨⟨dq, osq⟩, hw''⟩ := hw'
      subst hw''
      have hbg := below_regrown wr dq osq
      have HD6 := hide (HD.out.later hbg)
      have HB6 := hide (HB.out.trans (hbg.mono HB.out.size))
      replace d0 := cell_later hbg d0
      replace d1 := cell_later hbg d1
      clear HD HB q0 q3 hbg HSI HG
      generalize Go.Sort.grow (redrawn wr dq) osq = W6 at *
      go_upto_region 7 with (fail)
      obtain ⟨v, l, hv, hl, how, cv⟩ := HD6.out.rws.row (k := kk) (by rw [cutTo_len]; exact hkm)
      rw [cutTo_get hkm] at hl
      obtain rfl := Option.some.inj hl
      clear hl
      have hfl : ((S.take k).filter (inSlice many kk)).length ≤ 100000000 := by
        have h1 := List.length_filter_le (inSlice many kk) (S.take k)
        rw [List.length_take] at h1
        omega
      generalize (S.take k).filter (inSlice many kk) = F at *
      obtain ⟨fa, fc, rfl⟩ := id how.1
      have HOW := hide how
      have f3 : (0 : Int) ≤ (kk : Int) ∧ (kk : Int) < (many : Int) := by omega
      obtain ⟨f3, f4⟩ := f3
      have HFL : Hid (F.length + 1 ≤ 1000000000) := by show _ ≤ _; omega
      have HVK := hide hv
      have HNW : Hid (∀ (j : Nat) (u : Value), (encP (x, y))[j]? = some u → (W6.drew.alloc (.cells #[.string x, .int .i64 y] 101)).cell? ((⟨W6.heap.size, 0, none⟩ : Addr).add j) = some u) := news_at (w := W6.drew) rfl rfl
      clear how hfl hv
      refine wp_region_noPanic ?_
      refine wp_region_heldE_drew (S := (fun w' => Below W6.heap.size W6 w')) (E := [11, 12, 13]) (by kernel_rfl) ?_ (fun hHeld => ?_)
      · (first | exact (Below.refl _ _).drew | exact hHeld.alloc hHeld.size _)
      try dsimp only [List.size_toArray, List.length_cons, List.length_nil, Nat.reduceAdd]
      refine wpAnyHE_takeP (i := 0) (oi := { dst := some 29, op := Op.move (Operand.tmp 5), type := 59, pos := "parts.go:696", after := #[], guard := none }) (v := ?_) rfl (by kernel_rfl) (by kernel_rfl) (by kernel_rfl) (fun _ _ _ h => h) (Or.inl ⟨by rfl, ?_⟩) ?_
      rotate_left
      · (intro w _; go_simp; try with_reducible rfl)
      try simp only [Act.put, List.setIfInBounds_toArray, List.set_cons_zero, List.set_cons_succ]
      refine wpAnyHE_takeP (i := 1) (oi := { dst := some 30, op := Op.move (Operand.tmp 8), type := 3, pos := "parts.go:696", after := #[], guard := none }) (v := ?_) rfl (by kernel_rfl) (by kernel_rfl) (by kernel_rfl) (fun _ _ _ h => h) (Or.inl ⟨by rfl, ?_⟩) ?_
      rotate_left
      · (intro w _; go_simp; try with_reducible rfl)
      try simp only [Act.put, List.setIfInBounds_toArray, List.set_cons_zero, List.set_cons_succ]
      refine wpAnyHE_takeP (i := 2) (oi := { dst := some 31, op := Op.move (Operand.tmp 5), type := 59, pos := "parts.go:696", after := #[], guard := none }) (v := ?_) rfl (by kernel_rfl) (by kernel_rfl) (by kernel_rfl) (fun _ _ _ h => h) (Or.inl ⟨by rfl, ?_⟩) ?_
      rotate_left
      · (intro w _; go_simp; try with_reducible rfl)
      try simp only [Act.put, List.setIfInBounds_toArray, List.set_cons_zero, List.set_cons_succ]
      refine wpAnyHE_takeP (i := 3) (oi := { dst := some 32, op := Op.move (Operand.tmp 8), type := 3, pos := "parts.go:696", after := #[], guard := none }) (v := ?_) rfl (by kernel_rfl) (by kernel_rfl) (by kernel_rfl) (fun _ _ _ h => h) (Or.inl ⟨by rfl, ?_⟩) ?_
      rotate_left
      · (intro w _; go_simp; try with_reducible rfl)
      try simp only [Act.put, List.setIfInBounds_toArray, List.set_cons_zero, List.set_cons_succ]
      refine wpAnyHE_takeP (i := 4) (oi := { dst := some 33, op := Op.indexAddr 59 (Operand.tmp 31) (Operand.tmp 32), type := 0, pos := "parts.go:696", after := #[{ on := 2, ground := Ground.data }, { on := 3, ground := Ground.data }], guard := none }) (v := ?_) rfl (by kernel_rfl) (by kernel_rfl) (by kernel_rfl) (fun _ _ _ h => h) (Or.inl ⟨by rfl, ?_⟩) ?_
      rotate_left
      · (intro w _; go_simp; try with_reducible rfl)
      try simp only [Act.put, List.setIfInBounds_toArray, List.set_cons_zero, List.set_cons_succ]
      refine wpAnyHE_take (i := 5) (oi := { dst := some 34, op := Op.load 53 (Operand.tmp 33), type := 53, pos := "parts.go:696", after := #[{ on := 4, ground := Ground.data }], guard := none }) (v := ?_) [[5], [5], [5]] rfl (by kernel_rfl) (by kernel_rfl) (by kernel_rfl) (by kernel_rfl) (by kernel_rfl) (fun _ _ _ h => h) (Or.inl ⟨by rfl, ?_⟩) (by assumption) ?_
      rotate_left
      · (intro w hSw; (try dsimp only at hSw); (have q0 := cell_later hSw d0; have q1 := cell_later hSw d1; have q2 := cell_later hSw cv); go_simp; try with_reducible rfl)
      try simp only [Act.put, List.setIfInBounds_toArray, List.set_cons_zero, List.set_cons_succ]
      refine wpAnyHE_takeP (i := 6) (oi := { dst := some 35, op := Op.move (Operand.tmp 6), type := 53, pos := "parts.go:696", after := #[], guard := none }) (v := ?_) rfl (by kernel_rfl) (by kernel_rfl) (by kernel_rfl) (fun _ _ _ h => h) (Or.inl ⟨by rfl, ?_⟩) ?_
      rotate_left
      · (intro w _; go_simp; try with_reducible rfl)
      try simp only [Act.put, List.setIfInBounds_toArray, List.set_cons_zero, List.set_cons_succ]
      refine wpAnyHE_takeP (i := 7) (oi := { dst := some 36, op := Op.move (Operand.tmp 7), type := 3, pos := "parts.go:696", after := #[], guard := none }) (v := ?_) rfl (by kernel_rfl) (by kernel_rfl) (by kernel_rfl) (fun _ _ _ h => h) (Or.inl ⟨by rfl, ?_⟩) ?_
      rotate_left
      · (intro w _; go_simp; try with_reducible rfl)
      try simp only [Act.put, List.setIfInBounds_toArray, List.set_cons_zero, List.set_cons_succ]
      refine wpAnyHE_takeP (i := 8) (oi := { dst := some 37, op := Op.indexAddr 53 (Operand.tmp 35) (Operand.tmp 36), type := 0, pos := "parts.go:696", after := #[{ on := 6, ground := Ground.data }, { on := 7, ground := Ground.data }], guard := none }) (v := ?_) rfl (by kernel_rfl) (by kernel_rfl) (by kernel_rfl) (fun _ _ _ h => h) (Or.inl ⟨by rfl, ?_⟩) ?_
      rotate_left
      · (intro w _; go_simp; try with_reducible rfl)
      try simp only [Act.put, List.setIfInBounds_toArray, List.set_cons_zero, List.set_cons_succ]
      refine wpAnyHE_take (i := 9) (oi := { dst := some 38, op := Op.load 101 (Operand.tmp 37), type := 101, pos := "parts.go:696", after := #[{ on := 8, ground := Ground.data }], guard := none }) (v := ?_) [[10, 9], [9], [9]] rfl (by kernel_rfl) (by kernel_rfl) (by kernel_rfl) (by kernel_rfl) (by kernel_rfl) (fun _ _ _ h => h) (Or.inl ⟨by rfl, ?_⟩) (by assumption) ?_
      rotate_left
      · (intro w hSw; (try dsimp only at hSw); (have q0 := cell_later hSw d0; have q1 := cell_later hSw d1; have q2 := cell_later hSw cv); go_simp; try with_reducible rfl)
      try simp only [Act.put, List.setIfInBounds_toArray, List.set_cons_zero, List.set_cons_succ]
      refine wpAnyHE_ready (rs := [10]) (by kernel_rfl) (by simp) ?_
      refine AllReadyE.cons (o := { dst := some 39, op := Op.buildSlice 53 1 #[(0, Operand.tmp 38)], type := 53, pos := "parts.go:696", after := #[{ on := 9, ground := Ground.data }], guard := none }) rfl (fun KH hKH => ?_) AllReadyE.nil
      go_simp
      refine hKH.out _ _ ?_ (fun hNew => ?_)
      · (first | exact (Below.refl _ _).drew | exact hHeld.alloc hHeld.size _)
      clear hKH KH hHeld
      have hHeld := hNew
      clear hNew
      try simp only [Act.put, List.setIfInBounds_toArray, List.set_cons_zero, List.set_cons_succ]
      refine wpAnyHE_ready (rs := [11]) (by kernel_rfl) (by simp) ?_
      refine AllReadyE.consE (o := { dst := some 40, op := Op.call { callee := Callee.builtin Builtin.append, args := #[Operand.tmp 34, Operand.tmp 39], argTypes := #[53, 53] }, type := 53, pos := "parts.go:696", after := #[{ on := 5, ground := Ground.data }, { on := 10, ground := Ground.data }], guard := none }) rfl (by kernel_rfl) (fun KH hKH => ?_) AllReadyE.nil
      refine step_append_one (enc := encP) encP_len _ _ 53 i0 _ rfl rfl Tryz.underlying53 hi0 hz0 hz1 hz2 rfl (by decide) (by decide) (HOW.out.later hHeld) (Below.refl _ _) (Nat.le_trans HB6.out.size hHeld.size) HFL.out rfl (x, y) ⟨W6.heap.size, 0, none⟩ 1 rfl HNW.out (one_pair _) ?_
      intro v' w1 ho hb1 hgr hat
      have hat2 : ∀ q, v'.ownBlock = some q → (Value.slice fa F.length fc).ownBlock = some q ∨ W6.heap.size ≤ q := fun q e => hat.imp (fun h => h.symm.trans e) fun h => by rw [h] at e; have h1 := Option.some.inj e; have h2 := hHeld.size; omega
      have hput := HD6.out.put HVK.out hHeld ho hgr hat2
      have HBX := hide (HB6.out.trans ((hHeld.mono HB6.out.size).trans hb1))
      obtain ⟨na, nc, hv'⟩ := id ho.1
      subst hv'
      have s6 := hput.2.2
      have y6 := hput.2.1
      have HPUT := hide hput.1
      clear ho hb1 hgr hat hat2 hput d0 d1 cv
      refine hKH.out _ _ ?_
      clear hKH KH
      try clear hHeld
      try simp only [Act.put, List.setIfInBounds_toArray, List.set_cons_zero, List.set_cons_succ]
      refine wpAnyHE_ready (rs := [12]) (by kernel_rfl) (by simp) ?_
      refine AllReadyE.consE (o := { dst := some 41, op := Op.indexAddr 59 (Operand.tmp 29) (Operand.tmp 30), type := 0, pos := "parts.go:696", after := #[{ on := 0, ground := Ground.data }, { on := 1, ground := Ground.data }, { on := 0, ground := Ground.phase }, { on := 1, ground := Ground.phase }, { on := 2, ground := Ground.phase }, { on := 3, ground := Ground.phase }, { on := 4, ground := Ground.phase }, { on := 5, ground := Ground.phase }, { on := 6, ground := Ground.phase }, { on := 7, ground := Ground.phase }, { on := 8, ground := Ground.phase }, { on := 9, ground := Ground.phase }, { on := 10, ground := Ground.phase }, { on := 11, ground := Ground.phase }], guard := none }) rfl (by kernel_rfl) (fun KH hKH => ?_) AllReadyE.nil
      go_simp
      refine hKH.out _ _ ?_
      clear hKH KH
      try clear hHeld
      try simp only [Act.put, List.setIfInBounds_toArray, List.set_cons_zero, List.set_cons_succ]
      refine wpAnyHE_ready (rs := [13]) (by kernel_rfl) (by simp) ?_
      refine AllReadyE.consE (o := { dst := none, op := Op.store 53 (Operand.tmp 41) (Operand.tmp 40), type := 0, pos := "parts.go:696", after := #[{ on := 12, ground := Ground.data }, { on := 11, ground := Ground.data }, { on := 11, ground := Ground.chain }, { on := 0, ground := Ground.phase }, { on := 1, ground := Ground.phase }, { on := 2, ground := Ground.phase }, { on := 3, ground := Ground.phase }, { on := 4, ground := Ground.phase }, { on := 5, ground := Ground.phase }, { on := 6, ground := Ground.phase }, { on := 7, ground := Ground.phase }, { on := 8, ground := Ground.phase }, { on := 9, ground := Ground.phase }, { on := 10, ground := Ground.phase }, { on := 11, ground := Ground.phase }], guard := none }) rfl (by kernel_rfl) (fun KH hKH => ?_) AllReadyE.nil
      go_simp
      refine hKH.out _ _ ?_
      clear hKH KH
      try clear hHeld
      try simp only [Act.put, List.setIfInBounds_toArray, List.set_cons_zero, List.set_cons_succ]
      refine wpAnyHE_done (by kernel_rfl) ?_ _
      refine NoPanic.normal ?_
      go_wp2
      go_roundw
      case rel => exact ⟨k + 1, _, by omega, by go_num, by rw [HTK.out, HCS.out]; have h := HPUT.out; simp only [List.length_append] at h; exact h, by have h := HBX.out.setCell (p := ⟨W.heap.size, kk, none⟩) (Nat.le_refl _) (.slice na (F ++ [(x, y)]).length nc); simp only [List.length_append] at h; exact h⟩
      case measure => (simp [intOf]; try omega)
    · obtain rfl : k = S.length := by omega
      rw [List.take_length] at HD
      have c2 := HG.out.get (j := 2) rfl
      have g3 : decide (S.length < S.length) = false := by simp
      have g4 : decide ((S.length : Int) < (S.length : Int)) = false := by simp
      have HBF : Hid (∀ w', Below W.heap.size W w' → Below w.heap.size w w') := fun w' hb => HB0.out.trans (hb.mono HB0.out.size)
      cases early with
      | false =>
        go_wp2
        go_ret
        exact ⟨_, vs, rfl, by rw [HC1.out]; exact HD.out.rws, HBF.out _ HB.out⟩
      | true =>
        have c1 := HG.out.get (j := 1) rfl
        have HRW : Hid (Rws wr W.heap.size W.heap.size vs (foldTo fold many S 0)) := by rw [foldTo_zero]; exact HD.out.rws
        clear HD
        go_wp2
        go_loopw [9] (fun iv wq => ∃ (j : Nat) (vs : List Value), j ≤ many ∧ iv = .int .i64 j ∧ Hid (Rws wq W.heap.size W.heap.size vs (foldTo fold many S j)) ∧ Hid (Below W.heap.size W wq)) (fun iv _ => many - (intOf iv).toNat)
        case atStart => exact ⟨0, vs, by omega, rfl, HRW, HB⟩
        case round =>
          clear HRW HB HG c1 c2
          rename_i wr0
          obtain ⟨j, vs, hj, rfl, HRW, HB⟩ := hrel
          have HG := hide (HSG.out.later HB.out)
          by_cases hjm : j < many
          · obtain ⟨v, l, hv, hl, how, cv⟩ := HRW.out.row (k := j) (by rw [foldTo_len]; exact hjm)
            rw [foldTo_get hjm, if_neg (by omega)] at hl
            obtain rfl := Option.some.inj hl
            have HFS := hide (foldTo_succ (kind := fold) (S := S) hjm)
            have hfl : (S.filter (inSlice many j)).length ≤ 100000000 := by
              have h1 := List.length_filter_le (inSlice many j) S
              omega
            clear hl
            generalize S.filter (inSlice many j) = F at *
            obtain ⟨fa, fc, rfl⟩ := id how.1
            have HSL := hide (how.sl encP_len)
            have c1 := HG.out.get (j := 1) rfl
            have f3 : (0 : Int) ≤ (j : Int) ∧ (j : Int) < (many : Int) := by omega
            obtain ⟨f3, f4⟩ := f3
            have HVK := hide hv
            have HGR := hide fun (w' : World) (hb : Below wr.heap.size wr w') => Grouped_any fold fa fc F w' (by omega) (HSL.out.later hb (Nat.le_refl _))
            clear how hfl hv
            go_upto_region 12 with (fail)
            refine wp_region_noPanic ?_
            refine wp_region_heldE_drew (S := (fun w' => Below wr.heap.size wr w')) (E := [9, 10]) (by kernel_rfl) ?_ (fun hHeld => ?_)
            · (first | exact (Below.refl _ _).drew | exact hHeld.trans (b1.mono hHeld.size))
            try dsimp only [List.size_toArray, List.length_cons, List.length_nil, Nat.reduceAdd]
            refine wpAnyHE_takeP (i := 0) (oi := { dst := some 50, op := Op.move (Operand.tmp 5), type := 59, pos := "parts.go:700", after := #[], guard := none }) (v := ?_) rfl (by kernel_rfl) (by kernel_rfl) (by kernel_rfl) (fun _ _ _ h => h) (Or.inl ⟨by rfl, ?_⟩) ?_
            rotate_left
            · (intro w _; go_simp; try with_reducible rfl)
            try simp only [Act.put, List.setIfInBounds_toArray, List.set_cons_zero, List.set_cons_succ]
            refine wpAnyHE_takeP (i := 1) (oi := { dst := some 51, op := Op.move (Operand.tmp 9), type := 3, pos := "parts.go:700", after := #[], guard := none }) (v := ?_) rfl (by kernel_rfl) (by kernel_rfl) (by kernel_rfl) (fun _ _ _ h => h) (Or.inl ⟨by rfl, ?_⟩) ?_
            rotate_left
            · (intro w _; go_simp; try with_reducible rfl)
            try simp only [Act.put, List.setIfInBounds_toArray, List.set_cons_zero, List.set_cons_succ]
            refine wpAnyHE_takeP (i := 2) (oi := { dst := some 52, op := Op.fieldAddr 24 (Operand.tmp 2) 1, type := 0, pos := "parts.go:700", after := #[], guard := none }) (v := ?_) rfl (by kernel_rfl) (by kernel_rfl) (by kernel_rfl) (fun _ _ _ h => h) (Or.inl ⟨by rfl, ?_⟩) ?_
            rotate_left
            · (intro w _; go_simp; try with_reducible rfl)
            try simp only [Act.put, List.setIfInBounds_toArray, List.set_cons_zero, List.set_cons_succ]
            refine wpAnyHE_take (i := 3) (oi := { dst := some 53, op := Op.load 3 (Operand.tmp 52), type := 3, pos := "parts.go:700", after := #[{ on := 2, ground := Ground.data }], guard := none }) (v := ?_) [[3], [3]] rfl (by kernel_rfl) (by kernel_rfl) (by kernel_rfl) (by kernel_rfl) (by kernel_rfl) (fun _ _ _ h => h) (Or.inl ⟨by rfl, ?_⟩) (by assumption) ?_
            rotate_left
            · (intro w hSw; (try dsimp only at hSw); (have q0 := cell_later hSw c1; have q2 := cell_later hSw cv); go_simp; try with_reducible rfl)
            try simp only [Act.put, List.setIfInBounds_toArray, List.set_cons_zero, List.set_cons_succ]
            refine wpAnyHE_takeP (i := 4) (oi := { dst := some 54, op := Op.move (Operand.tmp 5), type := 59, pos := "parts.go:700", after := #[], guard := none }) (v := ?_) rfl (by kernel_rfl) (by kernel_rfl) (by kernel_rfl) (fun _ _ _ h => h) (Or.inl ⟨by rfl, ?_⟩) ?_
            rotate_left
            · (intro w _; go_simp; try with_reducible rfl)
            try simp only [Act.put, List.setIfInBounds_toArray, List.set_cons_zero, List.set_cons_succ]
            refine wpAnyHE_takeP (i := 5) (oi := { dst := some 55, op := Op.move (Operand.tmp 9), type := 3, pos := "parts.go:700", after := #[], guard := none }) (v := ?_) rfl (by kernel_rfl) (by kernel_rfl) (by kernel_rfl) (fun _ _ _ h => h) (Or.inl ⟨by rfl, ?_⟩) ?_
            rotate_left
            · (intro w _; go_simp; try with_reducible rfl)
            try simp only [Act.put, List.setIfInBounds_toArray, List.set_cons_zero, List.set_cons_succ]
            refine wpAnyHE_takeP (i := 6) (oi := { dst := some 56, op := Op.indexAddr 59 (Operand.tmp 54) (Operand.tmp 55), type := 0, pos := "parts.go:700", after := #[{ on := 4, ground := Ground.data }, { on := 5, ground := Ground.data }], guard := none }) (v := ?_) rfl (by kernel_rfl) (by kernel_rfl) (by kernel_rfl) (fun _ _ _ h => h) (Or.inl ⟨by rfl, ?_⟩) ?_
            rotate_left
            · (intro w _; go_simp; try with_reducible rfl)
            try simp only [Act.put, List.setIfInBounds_toArray, List.set_cons_zero, List.set_cons_succ]
            refine wpAnyHE_take (i := 7) (oi := { dst := some 57, op := Op.load 53 (Operand.tmp 56), type := 53, pos := "parts.go:700", after := #[{ on := 6, ground := Ground.data }], guard := none }) (v := ?_) [[7], [7]] rfl (by kernel_rfl) (by kernel_rfl) (by kernel_rfl) (by kernel_rfl) (by kernel_rfl) (fun _ _ _ h => h) (Or.inl ⟨by rfl, ?_⟩) (by assumption) ?_
            rotate_left
            · (intro w hSw; (try dsimp only at hSw); (have q0 := cell_later hSw c1; have q2 := cell_later hSw cv); go_simp; try with_reducible rfl)
            try simp only [Act.put, List.setIfInBounds_toArray, List.set_cons_zero, List.set_cons_succ]
            refine wpAnyHE_ready (rs := [8]) (by kernel_rfl) (by simp) ?_
            refine AllReadyE.cons (o := { dst := some 58, op := Op.call { callee := Callee.value (Operand.func 72), args := #[Operand.tmp 53, Operand.tmp 57], argTypes := #[3, 53] }, type := 53, pos := "parts.go:700", after := #[{ on := 3, ground := Ground.data }, { on := 7, ground := Ground.data }], guard := none }) rfl (fun KH hKH => ?_) AllReadyE.nil
            go_simp
            (go_at_call 72; refine (HGR.out _ hHeld).mono ?_; rintro e w1 ⟨v1, rfl, o1, b1⟩; obtain ⟨pa, pc, rfl⟩ := id o1.1)
            try go_wp2_with fail
            refine hKH.out _ _ ?_ (fun hNew => ?_)
            · (first | exact (Below.refl _ _).drew | exact hHeld.trans (b1.mono hHeld.size))
            clear hKH KH hHeld
            have hHeld := hNew
            clear hNew
            try simp only [Act.put, List.setIfInBounds_toArray, List.set_cons_zero, List.set_cons_succ]
            refine wpAnyHE_ready (rs := [9]) (by kernel_rfl) (by simp) ?_
            refine AllReadyE.consE (o := { dst := some 59, op := Op.indexAddr 59 (Operand.tmp 50) (Operand.tmp 51), type := 0, pos := "parts.go:700", after := #[{ on := 0, ground := Ground.data }, { on := 1, ground := Ground.data }, { on := 0, ground := Ground.phase }, { on := 1, ground := Ground.phase }, { on := 2, ground := Ground.phase }, { on := 3, ground := Ground.phase }, { on := 4, ground := Ground.phase }, { on := 5, ground := Ground.phase }, { on := 6, ground := Ground.phase }, { on := 7, ground := Ground.phase }, { on := 8, ground := Ground.phase }], guard := none }) rfl (by kernel_rfl) (fun KH hKH => ?_) AllReadyE.nil
            have hput := HRW.out.put (A := w1) (w1 := w1) (l := F) HVK.out hHeld hHeld.size (o1.base_le HB.out.size) ⟨rfl, rfl, rfl, Nat.le_refl _, fun _ _ _ => rfl⟩ (fun q e => .inr (o1.lt q e).1)
            have s6 := hput.2.2
            have y6 := hput.2.1
            have HPUT := hide hput.1
            have HBX := hide ((HB.out.trans (hHeld.mono HB.out.size)).setCell (p := ⟨W.heap.size, j, none⟩) (Nat.le_refl _) (.slice pa (groups fold F).length pc))
            clear hput o1 b1 c1 cv
            go_simp
            refine hKH.out _ _ ?_
            clear hKH KH
            try clear hHeld
            try simp only [Act.put, List.setIfInBounds_toArray, List.set_cons_zero, List.set_cons_succ]
            refine wpAnyHE_ready (rs := [10]) (by kernel_rfl) (by simp) ?_
            refine AllReadyE.consE (o := { dst := none, op := Op.store 53 (Operand.tmp 59) (Operand.tmp 58), type := 0, pos := "parts.go:700", after := #[{ on := 9, ground := Ground.data }, { on := 8, ground := Ground.data }, { on := 8, ground := Ground.chain }, { on := 0, ground := Ground.phase }, { on := 1, ground := Ground.phase }, { on := 2, ground := Ground.phase }, { on := 3, ground := Ground.phase }, { on := 4, ground := Ground.phase }, { on := 5, ground := Ground.phase }, { on := 6, ground := Ground.phase }, { on := 7, ground := Ground.phase }, { on := 8, ground := Ground.phase }], guard := none }) rfl (by kernel_rfl) (fun KH hKH => ?_) AllReadyE.nil
            go_simp
            refine hKH.out _ _ ?_
            clear hKH KH
            try clear hHeld
            try simp only [Act.put, List.setIfInBounds_toArray, List.set_cons_zero, List.set_cons_succ]
            refine wpAnyHE_done (by kernel_rfl) ?_ _
            refine NoPanic.normal ?_
            go_wp2
            go_roundw
            case rel => exact ⟨j + 1, _, by omega, by go_num, by rw [HFS.out]; exact HPUT, HBX⟩
            case measure => (simp [intOf]; try omega)
          · obtain rfl : j = many := by omega
            have g5 : decide (j < j) = false := by simp
            have g6 : decide ((j : Int) < (j : Int)) = false := by simp
            go_wp2
            go_ret
            exact ⟨_, vs, rfl, by rw [HC2.out]; exact HRW.out, HBF.out _ HB.out⟩
set_option maxRecDepth 100000 in
set_option maxHeartbeats 1000000 in
theorem SameSlices_refl (b1 b2 o1 o2 c1 c2 n : Nat) (v1 v2 : List Value) (ls : List (List Pr)) (w : World) (h1 : Rws w b1 o1 v1 ls) (h2 : Rws w b2 o2 v2 ls) (hn : n = ls.length) (hn2 : n ≤ 1000) (hll : ∀ l ∈ ls, l.length ≤ maxLen) :
    Calls Tryz.prog 27 #[.slice (some ⟨o1, 0, none⟩) n c1, .slice (some ⟨o2, 0, none⟩) n c2] w fun e w' => e = .returned (.bool true) ∧ Below w.heap.size w w' := by
  have H1 := hide h1
  have H2 := hide h2
  have HN := hide hn
  have HLL := hide hll
  clear h1 h2 hn hll
  go_enter Tryz.func27, Tryz.ntmps27
  go_wp2
  go_loopw [5] (fun iv wr => ∃ k : Nat, k ≤ n ∧ iv = .int .i64 k ∧ Hid (Below w.heap.size w wr)) (fun iv _ => n - (intOf iv).toNat)
  case atStart => exact ⟨0, by omega, rfl, Below.refl _ _⟩
  case round =>
    obtain ⟨k, hk, rfl, HB⟩ := hrel
    by_cases hlt : k < n
    · obtain ⟨u1, l1, hv1, hl1, ow1, cv1⟩ := (H1.out.later HB.out).row (k := k) (by rw [← HN.out]; exact hlt)
      obtain ⟨u2, l2, hv2, hl2, ow2, cv2⟩ := (H2.out.later HB.out).row (k := k) (by rw [← HN.out]; exact hlt)
      rw [hl1] at hl2
      obtain rfl := Option.some.inj hl2
      obtain ⟨a1, p1, rfl⟩ := id ow1.1
      obtain ⟨a2, p2, rfl⟩ := id ow2.1
      have hlm := HLL.out _ (List.mem_of_getElem? hl1)
      have HSP := hide fun (w' : World) (hb : Below wr.heap.size wr w') => SamePairs_refl a1 a2 p1 p2 l1 w' hlm ((ow1.sl encP_len).later hb (Nat.le_refl _)) ((ow2.sl encP_len).later hb (Nat.le_refl _))
      have f1 : (0 : Int) ≤ (k : Int) ∧ (k : Int) < (n : Int) := by omega
      obtain ⟨f1, f2⟩ := f1
      have q0 := cell_regrown cv1
      have q1 := cell_regrown cv2
      clear hv1 hl1 ow1 cv1 hv2 ow2 cv2 hlm
      go_upto_region 6 with (fail)
      refine wp_region_quiet_below (by kernel_rfl) (by kernel_rfl) ?_
      repeat (go_big_quiet_step (first | (go_at_call 24; exact Calls.regrown_of (HSP.out _ (below_regrown _ _ _)))))
      refine wpQuiet_nil ?_
      intro _ hw'
      obtain ⟨⟨dq, osq⟩, hw''⟩ := hw'
      subst hw''
      have HB6 := hide (HB.out.trans ((below_regrown wr dq osq).mono HB.out.size))
      clear HB q0 q1 HSP
      generalize Go.Sort.grow (redrawn wr dq) osq = W6 at *
      go_wp2
      go_roundw
      case rel => exact ⟨k + 1, by omega, by go_num, HB6⟩
      case measure => (simp [intOf]; try omega)
    · obtain rfl : k = n := by omega
      have g3 : decide (k < k) = false := by simp
      have g4 : decide ((k : Int) < (k : Int)) = false := by simp
      go_wp2
      go_ret
      exact ⟨rfl, HB.out⟩
end Go.Proofs.YtgeedjlbajmdkaaGreatDoor
