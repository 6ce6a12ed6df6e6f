/- TopSlices: the law's walk. -/
import Derived.Test.YtafogaopccajaaaDoorReady
import Derived.Test.YtafogaopccajaaaDoorLightJob
import Derived.Test.YtafogaopccajaaaDoorJobOpen
import Derived.Test.YtafogaopccajaaaDoorMSlices
import Derived.Test.YtafogaopccajaaaDoorMRunV
import Derived.Test.YtafogaopccajaaaDoorTexts
set_option linter.unusedSimpArgs false
set_option linter.unusedVariables false
namespace Go.Proofs.YtafogaopccajaaaDoor
open Go.RowKit

def cntL (ss : List (List Pr)) (k : Nat) : Nat := ((ss.take k).map List.length).sum
theorem cntL_succ {ss : List (List Pr)} {k : Nat} {s : List Pr} (h : ss[k]? = some s) : cntL ss (k + 1) = cntL ss k + s.length := by
  obtain ⟨hlt, hx⟩ := List.getElem?_eq_some_iff.1 h
  unfold cntL
  rw [List.take_succ_eq_append_getElem hlt, hx, List.map_append, List.sum_append]
  simp
theorem cntL_mono (ss : List (List Pr)) (k : Nat) : cntL ss k ≤ cntL ss ss.length := by
  unfold cntL
  rw [List.take_length]
  conv => rhs; rw [← List.take_append_drop k ss]
  rw [List.map_append, List.sum_append]
  omega
theorem cut_count {fold : Int} {early : Bool} {many : Nat} (hm : 1 ≤ many) (L : List Pr) : cntL (cutP fold early many L) many ≤ L.length ∧ (early = false → cntL (cutP fold early many L) many = L.length) := by
  have h1 : cntL (cutP fold early many L) many = ((List.range many).map fun n => (if early = true then groups fold ((srt L).filter (inSlice many n)) else (srt L).filter (inSlice many n)).length).sum := by
    unfold cntL
    rw [List.take_of_length_le (by rw [cutP_len]; exact Nat.le_refl _)]
    unfold cutP
    rw [List.map_map]
    rfl
  have h2 := slices_count hm (srt L)
  rw [srt_len] at h2
  rw [h1]
  cases early with
  | false => exact ⟨by simpa using Nat.le_of_eq h2, fun _ => by simpa using h2⟩
  | true =>
    refine ⟨?_, fun h => by cases h⟩
    rw [← h2]
    refine sum_le (fun i => ?_) many
    simp only [if_true]
    exact groups_length _ _
theorem grp_keys {fold : Int} {l : List Pr} {i : Nat} {a b : Pr} (h : (grp fold l)[i]? = some a) (h2 : (grp fold l)[i + 1]? = some b) : ¬ b.1 = a.1 := by
  have hi := grp_incr fold l
  obtain ⟨hl1, hx1⟩ := List.getElem?_eq_some_iff.1 h
  obtain ⟨hl2, hx2⟩ := List.getElem?_eq_some_iff.1 h2
  have := List.pairwise_iff_getElem.1 hi i (i + 1) hl1 hl2 (by omega)
  rw [hx1, hx2] at this
  intro e
  exact klt_ne this (by rw [e])
set_option maxRecDepth 100000 in
set_option maxHeartbeats 4000000 in
theorem TopSlices_walk (ro : Option Addr) (rc : Nat) (rs : List RuleR) (fold slices : Int) (early : Bool) (lo : Option Addr) (lc : Nat) (lines : List ByteArray) (w : World) (hg : GM w) (hj : JobIn w ro rc rs fold slices) (hll : lines.length ≤ maxLen) (hs : Sl 1 encS w lo lines) (hn : lo = none → lc = 0) :
    Calls Tryd.prog 5 #[.agg #[.slice ro rs.length rc, .int .i64 fold, .bool early, .int .i64 slices], .slice lo lines.length lc] w fun e w' => e = .returned (.bool true) ∧ Below w.heap.size w w' := by
  obtain ⟨W1, hW1⟩ : ∃ W, W = w.alloc (.cells #[.slice ro rs.length rc, .int .i64 fold, .bool early, .int .i64 slices] 24) := ⟨_, rfl⟩
  have hb1 : Below w.heap.size w W1 := by rw [hW1]; exact (Below.refl _ _).alloc (Nat.le_refl _) _
  have hbj : Bk W1 w.heap.size [.slice ro rs.length rc, .int .i64 fold, .bool early, .int .i64 slices] := by rw [hW1]; exact Bk.new rfl
  have hrl := hj.len
  unfold maxLen at hrl hll
  have HJ := hide hj
  have HG := hide hg
  have HS := hide hs
  have HN := hide hn
  have HB := hide hb1
  have HBJ := hide hbj
  have HW1 := hide hW1
  have HRE := hide fun w' (hb : Below w.heap.size w w') => ready_any w' (hg.later hb (Nat.le_refl _))
  have HLJ := hide fun w' (hb : Below w.heap.size w w') => LightJob_any ro rc rs fold slices early w' hj.len (hj.sl.later hb (Nat.le_refl _)) fun r hr => by obtain ⟨d, h⟩ := hj.at_ r hr; exact ⟨d, h.later hb (Nat.le_refl _)⟩
  have HJC := hide fun w' (hb : Below w.heap.size w w') => jobCheck_any ro rc rs fold slices early w' hj.len (hj.sl.later hb (Nat.le_refl _)) fun r hr => by obtain ⟨d, h⟩ := hj.at_ r hr; exact ⟨d, h.later hb (Nat.le_refl _)⟩
  have HLT := hide fun w' (hb : Below w.heap.size w w') => LightTexts_any lo lc lines 60 120 w' (by unfold maxLen; omega) (hs.later hb (Nat.le_refl _))
  unfold SomeB at HLJ
  clear hb1 hbj hW1 hg hj hs hn
  go_enter Tryd.func5, Tryd.ntmps5
  go_upto_region 1 with (fail)
  rw [← HW1.out]
  clear HW1
  go_wp2_with fail
  refine (HRE.out _ HB.out).mono ?_
  rintro e w2 ⟨rfl, b2⟩
  replace HB := hide (HB.out.trans (b2.mono HB.out.size))
  replace HBJ := hide (HBJ.out.later b2)
  clear b2 HRE
  have j0 := HBJ.out.get (j := 0) rfl
  have j1 := HBJ.out.get (j := 1) rfl
  have j2 := HBJ.out.get (j := 2) rfl
  have j3 := HBJ.out.get (j := 3) rfl
  go_wp2_with fail
  refine (HLJ.out _ HB.out).mono ?_
  rintro e w3 ⟨⟨b, rfl⟩, b3⟩
  replace j0 := cell_later b3 j0
  replace j1 := cell_later b3 j1
  replace j2 := cell_later b3 j2
  replace j3 := cell_later b3 j3
  replace HB := hide (HB.out.trans (b3.mono HB.out.size))
  replace HBJ := hide (HBJ.out.later b3)
  clear b3 HLJ
  cases b with
  | false =>
    clear HLT HJC
    go_wp2
    go_ret
    exact ⟨rfl, HB.out⟩
  | true =>
  obtain ⟨lt, hlt⟩ : ∃ lt, lightTexts lines 60 120 = lt := ⟨_, rfl⟩
  have HLTX := hide hlt
  rw [hlt] at HLT
  clear hlt
  go_wp2_with fail
  refine (HLT.out _ HB.out).mono ?_
  rintro e w3' ⟨rfl, rfl⟩
  clear HLT
  cases lt with
  | false =>
    clear HJC
    go_wp2
    go_ret
    exact ⟨rfl, HB.out⟩
  | true =>
  obtain ⟨jf, hjf⟩ : ∃ jf, jobF (rs.map RuleR.v) fold slices = jf := ⟨_, rfl⟩
  have HJF := hide hjf
  rw [hjf] at HJC
  clear hjf
  go_wp2_with fail
  refine (HJC.out _ HB.out).mono ?_
  rintro e w4 ⟨rfl, b4⟩
  replace j0 := cell_later b4 j0
  replace j1 := cell_later b4 j1
  replace j2 := cell_later b4 j2
  replace j3 := cell_later b4 j3
  replace HB := hide (HB.out.trans (b4.mono HB.out.size))
  replace HBJ := hide (HBJ.out.later b4)
  clear b4 HJC
  have HJL : Hid (w.heap.size < w4.heap.size) := HBJ.out.lt
  by_cases hj0 : jf = 0
  case neg =>
    rw [errV_pos hj0]
    go_wp2
    go_ret
    exact ⟨rfl, HB.out⟩
  subst hj0
  rw [errV_zero]
  have HOK := hide (JobOk.of HJF.out)
  obtain ⟨many, hmany⟩ : ∃ many : Nat, slices = (many : Int) := ⟨slices.toNat, by have := HOK.out.slices; omega⟩
  subst hmany
  have hm4 : 1 ≤ many ∧ many ≤ 4 := by have := HOK.out.slices; omega
  have hrn : rs.length ≤ 4 := HOK.out.many.2
  have hl60 : lines.length ≤ 60 := by have := (lightTexts_of HLTX.out).1; omega
  have HLS : Hid (∀ l ∈ lines, l.size ≤ 500) := fun l hl => by have := (lightTexts_of HLTX.out).2 l hl; omega
  obtain ⟨d, hd⟩ := rules_deep HJ.out.at_
  have HJA := hide fun (w' : World) (hb : Below w.heap.size w w') => (⟨HJ.out.sl.later hb (Nat.le_refl _), fun r hr => (hd r hr).later hb (Nat.le_refl _)⟩ : JobAt w' ro rs d)
  clear hd
  have HNW := hide (MNew_any ro rc rs fold many early d lo lc lines w4 (HJA.out _ HB.out) (by unfold maxLen; omega) (by omega) (HS.out.later HB.out (Nat.le_refl _)) HN.out HJF.out hl60)
  go_wp2_with fail
  refine HNW.out.mono ?_
  rintro e w5 ⟨⟨g, la, lc', rfl, hr5⟩, b5⟩
  have HR5 := hide hr5
  have HB4 := hide HB.out.size
  replace j0 := cell_later b5 j0
  replace j1 := cell_later b5 j1
  replace j2 := cell_later b5 j2
  replace j3 := cell_later b5 j3
  replace HB := hide (HB.out.trans (b5.mono HB.out.size))
  replace HBJ := hide (HBJ.out.later b5)
  have HW45 := hide b5.size
  clear b5 hr5 HNW
  have HST := hide (MStep_any d 60 w5 HW45.out (fun w' hb => HG.out.later (HB.out.trans (hb.mono HB4.out)) (Nat.le_refl _)) (fun w' hb => HJA.out w' (HB.out.trans (hb.mono HB4.out))) HOK.out HR5.out HLS.out (by omega) (by decide))
  rw [show min (0 + (60 : Int).toNat) lines.length = lines.length by omega] at HST
  go_wp2_with fail
  refine HST.out.mono ?_
  rintro e w6 ⟨va6, ⟨rfl, hr6, hv6⟩, k6⟩
  have hgl : w4.heap.size ≤ g := HR5.out.lo
  have b6 : Below w4.heap.size w5 w6 := k6.below (fun q hq => by
    rcases hq with rfl | hq
    · exact hgl
    · simp [Value.ownBlock] at hq) HW45.out
  have hjl := HJL.out
  have HB6 := hide (HB.out.trans (b6.mono HB4.out))
  have hq0 := (b6.cell (p := ⟨w.heap.size, 0, none⟩) hjl).trans j0
  have hq1 := (b6.cell (p := ⟨w.heap.size, 1, none⟩) hjl).trans j1
  have hq2 := (b6.cell (p := ⟨w.heap.size, 2, none⟩) hjl).trans j2
  have hq3 := (b6.cell (p := ⟨w.heap.size, 3, none⟩) hjl).trans j3
  have HVL := hide (by have := madeL_len (rs.map RuleR.v) fold (by rw [List.length_map]; exact HOK.out.many.2) lines HLS.out; omega : (madeL (rs.map RuleR.v) fold lines).length ≤ 120480)
  have HVK := hide (madeL_ok (rs := rs.map RuleR.v) (by intro r hr; obtain ⟨x, hx, rfl⟩ := List.mem_map.1 hr; exact HOK.out.ok x hx) fold HLS.out)
  have HSL := hide (MSlices_any w6 hr6 ⟨hm4.1, by omega⟩ (by rw [List.take_length]; have := HVL.out; omega) (by rw [List.take_length]; intro p hp; have := (HVK.out p hp).1; unfold maxLen; omega))
  rw [List.take_length] at HSL
  clear HB HBJ j0 j1 j2 j3 HR5 HST k6 hr6 hv6 hgl b6 hjl HW45
  go_wp2_with fail
  refine HSL.out.mono ?_
  rintro e w7 ⟨ob, vs, rfl, hrw, b7⟩
  have HRW := hide hrw
  replace hq0 := cell_later b7 hq0
  replace hq1 := cell_later b7 hq1
  replace hq2 := cell_later b7 hq2
  replace hq3 := cell_later b7 hq3
  replace HB6 := hide (HB6.out.trans (b7.mono HB6.out.size))
  clear hrw b7 HSL
  obtain ⟨T, hT⟩ : ∃ T, (madeL (rs.map RuleR.v) fold lines).length = T := ⟨_, rfl⟩
  go_wp2
  go_loopw [9, 10] (fun sv iv wr => ∃ (i : Nat), i ≤ lines.length ∧ iv = .int .i64 i ∧ sv = .int .i64 ((madeL (rs.map RuleR.v) fold (lines.take i)).length : Nat) ∧ Hid (Below w7.heap.size w7 wr)) (fun _ iv _ => lines.length - (intOf iv).toNat)
  case atStart => exact ⟨0, by omega, rfl, by simp [madeL], Below.refl _ _⟩
  case round =>
    obtain ⟨i, hi, rfl, rfl, HBR⟩ := hrel
    have q0 := cell_later HBR.out hq0
    have q1 := cell_later HBR.out hq1
    have q2 := cell_later HBR.out hq2
    have q3 := cell_later HBR.out hq3
    have HBW := hide (HB6.out.trans (HBR.out.mono HB6.out.size))
    by_cases hlt : i < lines.length
    · obtain ⟨b, off, line, rfl, hbw, hlk, d0⟩ := (HS.out.later HBW.out (Nat.le_refl _)).str hlt
      have hmk := madeL_succ (rs.map RuleR.v) fold hlk
      have HMK : Hid ((madeL (rs.map RuleR.v) fold (lines.take (i + 1))).length = (madeL (rs.map RuleR.v) fold (lines.take i)).length + (pairsJ (rs.map RuleR.v) fold line).length) := by show _ = _; rw [hmk, List.length_append]
      have hb1 : (madeL (rs.map RuleR.v) fold (lines.take i)).length ≤ 120480 := by
        have h1 := madeL_len (rs.map RuleR.v) fold (by rw [List.length_map]; exact HOK.out.many.2) (lines.take i) (fun l hl => HLS.out l (List.mem_of_mem_take hl))
        rw [List.length_take] at h1
        omega
      have hls := HLS.out line (List.mem_of_getElem? hlk)
      have hb2 : (pairsJ (rs.map RuleR.v) fold line).length ≤ 2008 := by
        have h1 := pairsJ_small (rs.map RuleR.v) fold line hls
        have h2 := Nat.mul_le_mul_right 502 HOK.out.many.2
        rw [List.length_map] at h1
        omega
      have HP := hide fun (w' : World) (hb : Below wr.heap.size wr w') => by
        have hbw := HBW.out.trans (hb.mono HBW.out.size)
        exact Pairs_any ro rc rs fold many early line d w' (HG.out.later hbw (Nat.le_refl _)) (by omega) hls (HJA.out w' hbw).sl (HJA.out w' hbw).at_ HOK.out.ok
      have HAB := hide hb1
      generalize (madeL (rs.map RuleR.v) fold (lines.take i)).length = A at *
      generalize pairsJ (rs.map RuleR.v) fold line = pl at *
      have hsum : IntKind.i64.wrap ((A : Int) + (pl.length : Int)) = (A : Int) + (pl.length : Int) := IntWalk.i64_in _ (by omega)
      have f1 : (0 : Int) ≤ (i : Int) ∧ (i : Int) < (lines.length : Int) := by omega
      obtain ⟨f1, f2⟩ := f1
      clear hlk hmk
      go_upto_region 15 with (fail)
      refine wp_region_noPanic ?_
      refine wp_region_heldE_drew (S := (fun w' => Below wr.heap.size wr w')) (E := [9]) (by kernel_rfl) ?_ (fun hHeld => ?_)
      · (first | exact (Below.refl _ _).drew | exact hHeld.trans (b1.mono hHeld.size) | exact hHeld)
      try dsimp only [List.size_toArray, List.length_cons, List.length_nil, Nat.reduceAdd]
      refine wpAnyHE_takeP (i := 0) (oi := { dst := some 47, op := Op.move (Operand.tmp 9), type := 3, pos := "parts.go:134", after := #[], guard := none }) (v := ?_) rfl (by kernel_rfl) (by kernel_rfl) (by kernel_rfl) (fun _ _ _ h => h) (Or.inl ⟨by rfl, ?_⟩) ?_
      rotate_left
      · (intro w _; go_simp; try with_reducible rfl)
      try simp only [Act.put, List.setIfInBounds_toArray, List.set_cons_zero, List.set_cons_succ]
      refine wpAnyHE_take (i := 1) (oi := { dst := some 48, op := Op.load 24 (Operand.tmp 2), type := 24, pos := "parts.go:134", after := #[], guard := none }) (v := ?_) [[1]] rfl (by kernel_rfl) (by kernel_rfl) (by kernel_rfl) (by kernel_rfl) (by kernel_rfl) (fun _ _ _ h => h) (Or.inl ⟨by rfl, ?_⟩) (by assumption) ?_
      rotate_left
      · (intro w hSw; (try dsimp only at hSw); (have t0 := cell_later hSw q0; have t1 := cell_later hSw q1; have t2 := cell_later hSw q2; have t3 := cell_later hSw q3; have t4 := cell_later hSw d0); go_simp; try with_reducible rfl)
      try simp only [Act.put, List.setIfInBounds_toArray, List.set_cons_zero, List.set_cons_succ]
      refine wpAnyHE_takeP (i := 2) (oi := { dst := some 49, op := Op.move (Operand.tmp 1), type := 40, pos := "parts.go:134", after := #[], guard := none }) (v := ?_) rfl (by kernel_rfl) (by kernel_rfl) (by kernel_rfl) (fun _ _ _ h => h) (Or.inl ⟨by rfl, ?_⟩) ?_
      rotate_left
      · (intro w _; go_simp; try with_reducible rfl)
      try simp only [Act.put, List.setIfInBounds_toArray, List.set_cons_zero, List.set_cons_succ]
      refine wpAnyHE_takeP (i := 3) (oi := { dst := some 50, op := Op.move (Operand.tmp 10), type := 3, pos := "parts.go:134", after := #[], guard := none }) (v := ?_) rfl (by kernel_rfl) (by kernel_rfl) (by kernel_rfl) (fun _ _ _ h => h) (Or.inl ⟨by rfl, ?_⟩) ?_
      rotate_left
      · (intro w _; go_simp; try with_reducible rfl)
      try simp only [Act.put, List.setIfInBounds_toArray, List.set_cons_zero, List.set_cons_succ]
      refine wpAnyHE_takeP (i := 4) (oi := { dst := some 51, op := Op.indexAddr 40 (Operand.tmp 49) (Operand.tmp 50), type := 0, pos := "parts.go:134", after := #[{ on := 2, ground := Ground.data }, { on := 3, ground := Ground.data }], guard := none }) (v := ?_) rfl (by kernel_rfl) (by kernel_rfl) (by kernel_rfl) (fun _ _ _ h => h) (Or.inl ⟨by rfl, ?_⟩) ?_
      rotate_left
      · (intro w _; go_simp; try with_reducible rfl)
      try simp only [Act.put, List.setIfInBounds_toArray, List.set_cons_zero, List.set_cons_succ]
      refine wpAnyHE_take (i := 5) (oi := { dst := some 52, op := Op.load 9 (Operand.tmp 51), type := 9, pos := "parts.go:134", after := #[{ on := 4, ground := Ground.data }], guard := none }) (v := ?_) [[5]] rfl (by kernel_rfl) (by kernel_rfl) (by kernel_rfl) (by kernel_rfl) (by kernel_rfl) (fun _ _ _ h => h) (Or.inl ⟨by rfl, ?_⟩) (by assumption) ?_
      rotate_left
      · (intro w hSw; (try dsimp only at hSw); (have t0 := cell_later hSw q0; have t1 := cell_later hSw q1; have t2 := cell_later hSw q2; have t3 := cell_later hSw q3; have t4 := cell_later hSw d0); go_simp; try with_reducible rfl)
      try simp only [Act.put, List.setIfInBounds_toArray, List.set_cons_zero, List.set_cons_succ]
      refine wpAnyHE_ready (rs := [6]) (by kernel_rfl) (by simp) ?_
      refine AllReadyE.cons (o := { dst := some 53, op := Op.call { callee := Callee.value (Operand.func 13), args := #[Operand.tmp 48, Operand.tmp 52], argTypes := #[24, 9] }, type := 30, pos := "parts.go:134", after := #[{ on := 1, ground := Ground.data }, { on := 5, ground := Ground.data }], guard := none }) rfl (fun KH hKH => ?_) AllReadyE.nil
      go_simp
      (go_at_call 13; refine (HP.out _ hHeld).mono ?_; rintro e w1 ⟨v1, rfl, o1, b1⟩; obtain ⟨pa, pc, rfl⟩ := id o1.1)
      try go_wp2_with fail
      refine hKH.out _ _ ?_ (fun hNew => ?_)
      · (first | exact (Below.refl _ _).drew | exact hHeld.trans (b1.mono hHeld.size) | exact hHeld)
      clear hKH KH hHeld
      have hHeld := hNew
      clear hNew
      try simp only [Act.put, List.setIfInBounds_toArray, List.set_cons_zero, List.set_cons_succ]
      refine wpAnyHE_ready (rs := [7]) (by kernel_rfl) (by simp) ?_
      refine AllReadyE.cons (o := { dst := some 54, op := Op.call { callee := Callee.builtin Builtin.len, args := #[Operand.tmp 53], argTypes := #[30] }, type := 3, pos := "parts.go:134", after := #[{ on := 6, ground := Ground.data }], guard := none }) rfl (fun KH hKH => ?_) AllReadyE.nil
      go_simp
      refine hKH.out _ _ ?_ (fun hNew => ?_)
      · (first | exact (Below.refl _ _).drew | exact hHeld.trans (b1.mono hHeld.size) | exact hHeld)
      clear hKH KH hHeld
      have hHeld := hNew
      clear hNew
      try simp only [Act.put, List.setIfInBounds_toArray, List.set_cons_zero, List.set_cons_succ]
      refine wpAnyHE_ready (rs := [8]) (by kernel_rfl) (by simp) ?_
      refine AllReadyE.cons (o := { dst := some 55, op := Op.binOp BinOp.add 3 (Operand.tmp 47) (Operand.tmp 54) 3, type := 3, pos := "parts.go:134", after := #[{ on := 0, ground := Ground.data }, { on := 7, ground := Ground.data }], guard := none }) rfl (fun KH hKH => ?_) AllReadyE.nil
      go_simp
      refine hKH.out _ _ ?_ (fun hNew => ?_)
      · (first | exact (Below.refl _ _).drew | exact hHeld.trans (b1.mono hHeld.size) | exact hHeld)
      clear hKH KH hHeld
      have hHeld := hNew
      clear hNew
      try simp only [Act.put, List.setIfInBounds_toArray, List.set_cons_zero, List.set_cons_succ]
      refine wpAnyHE_ready (rs := [9]) (by kernel_rfl) (by simp) ?_
      refine AllReadyE.consE (o := { dst := some 9, op := Op.assign (Operand.tmp 55), type := 3, pos := "parts.go:134", after := #[{ on := 8, ground := Ground.data }, { on := 6, ground := Ground.chain }, { on := 0, ground := Ground.phase }, { on := 1, ground := Ground.phase }, { on := 2, ground := Ground.phase }, { on := 3, ground := Ground.phase }, { on := 4, ground := Ground.phase }, { on := 5, ground := Ground.phase }, { on := 6, ground := Ground.phase }, { on := 7, ground := Ground.phase }, { on := 8, ground := Ground.phase }], guard := none }) rfl (by kernel_rfl) (fun KH hKH => ?_) AllReadyE.nil
      have HBX := hide (HBR.out.trans (hHeld.mono HBR.out.size))
      go_simp
      refine hKH.out _ _ ?_
      clear hKH KH
      try clear hHeld
      try simp only [Act.put, List.setIfInBounds_toArray, List.set_cons_zero, List.set_cons_succ]
      refine wpAnyHE_done (by kernel_rfl) ?_ _
      refine NoPanic.normal ?_
      go_wp2
      go_roundw
      case rel => exact ⟨i + 1, by omega, by go_num, by (have hb1' : A ≤ 120480 := HAB.out); rw [HMK.out]; go_num, HBX⟩
      case measure => (simp [intOf]; try omega)
    · obtain rfl : i = lines.length := by omega
      rw [List.take_length, hT]
      obtain ⟨ss, hss⟩ : ∃ ss, cutP fold early many (madeL (rs.map RuleR.v) fold lines) = ss := ⟨_, rfl⟩
      have hct := cut_count (fold := fold) (early := early) hm4.1 (madeL (rs.map RuleR.v) fold lines)
      have HSSL : Hid (ss.length = many) := by show _ = _; rw [← hss, cutP_len]
      have HRI : Hid (∀ (k : Nat) l, k < many → ss[k]? = some l → Rise l ∧ (∀ p ∈ l, sliceB p.1 many = (k : Int) ∧ p.1.size ≤ maxLen) ∧ (early = true → ∀ (i : Nat) a b, l[i]? = some a → l[i + 1]? = some b → ¬ b.1 = a.1)) := by
        intro k l hk hl
        rw [← hss] at hl
        refine ⟨cutP_rise hk hl, fun p hp => ⟨by have := cutP_in hk hl p hp; unfold inSlice at this; simpa using this, ?_⟩, fun he i a b ha hb => ?_⟩
        · rw [cutP_get hk] at hl
          obtain rfl := Option.some.inj hl
          have hmem : ∃ q ∈ madeL (rs.map RuleR.v) fold lines, q.1 = p.1 := by
            split at hp
            · obtain ⟨q, hq, e⟩ := groups_of _ _ p hp
              exact ⟨q, (List.mem_filter.1 (mem_srt.1 hq)).1, e.symm⟩
            · exact ⟨p, (List.mem_filter.1 (mem_srt.1 hp)).1, rfl⟩
          obtain ⟨q, hq, e⟩ := hmem
          have := (HVK.out q hq).1
          rw [← e]
          unfold maxLen
          omega
        · rw [cutP_get hk, if_pos he] at hl
          obtain rfl := Option.some.inj hl
          exact grp_keys ha hb
      rw [hss, hT] at hct
      rw [hss] at HRW
      have HCT := hide hct
      have hT2 : T ≤ 120480 := by rw [← hT]; exact HVL.out
      have hmm : ((many : Int) != (many : Int)) = false := by simp
      clear hss hct hT q0 q1 HVL HVK
      have HQ2 := hide q2
      have HQ3 := hide q3
      go_wp2
      rename_i wr0
      go_loopw [9, 11] (fun sv kv wq => ∃ (k : Nat), k ≤ many ∧ kv = .int .i64 k ∧ sv = .int .i64 ((T : Int) - (cntL ss k : Int)) ∧ Hid (Below w7.heap.size w7 wq)) (fun _ kv _ => many - (intOf kv).toNat)
      case atStart => exact ⟨0, by omega, rfl, by simp [cntL], HBR⟩
      case round =>
        clear HBR HBW q2 q3
        obtain ⟨k, hk, rfl, rfl, HBR⟩ := hrel
        have HBW := hide (HB6.out.trans (HBR.out.mono HB6.out.size))
        have q2 := cell_later HBR.out hq2
        have q3 := cell_later HBR.out hq3
        by_cases hlt : k < many
        · obtain ⟨v, l, hv, hl, how, cv⟩ := (HRW.out.later HBR.out).row (k := k) (by rw [HSSL.out]; exact hlt)
          obtain ⟨fa, fc, rfl⟩ := id how.1
          have HCV := hide cv
          have HLR := hide (HRI.out k l hlt hl)
          have HSLL := hide (how.sl encP_len)
          have HCS := hide (cntL_succ hl)
          have hcm := cntL_mono ss (k + 1)
          rw [HSSL.out] at hcm
          have hc2 := HCT.out.1
          have hc3 : cntL ss k + l.length ≤ T := by have := HCS.out; omega
          have f1 : (0 : Int) ≤ (k : Int) ∧ (k : Int) < (many : Int) := by omega
          obtain ⟨f1, f2⟩ := f1
          clear hv hl how
          generalize cntL ss k = C at *
          go_wp2
          rename_i wr1
          go_loopw [9, 12] (fun sv mv wq => ∃ (m : Nat), m ≤ l.length ∧ mv = .int .i64 m ∧ sv = .int .i64 ((T : Int) - (C : Int) - (m : Int)) ∧ Hid (Below wr.heap.size wr wq)) (fun _ mv _ => l.length - (intOf mv).toNat)
          case atStart => exact ⟨0, by omega, rfl, by simp, Below.refl _ _⟩
          case round =>
            obtain ⟨m, hm, rfl, rfl, HB2⟩ := hrel
            have cv2 := cell_later HB2.out HCV.out
            have q3 := cell_later HB2.out q3
            have q2' := cell_later HB2.out q2
            have HBR2 := hide (HBR.out.trans (HB2.out.mono HBR.out.size))
            by_cases hltm : m < l.length
            · obtain ⟨b, off, x, y, rfl, hbw, hlk, d0, d1⟩ := (HSLL.out.later HB2.out (Nat.le_refl _)).pair hltm
              have hx := (HLR.out.2.1 _ (List.mem_of_getElem? hlk))
              have HSI := hide fun w' => Slice_any x (many : Int) w' hx.2 (by omega)
              have hxe := hx.1
              dsimp only at hxe
              rw [hxe] at HSI
              have hkk : ((k : Int) != (k : Int)) = false := by simp
              have f3 : (0 : Int) ≤ (m : Int) ∧ (m : Int) < (l.length : Int) := by omega
              obtain ⟨f3, f4⟩ := f3
              clear hx hxe
              have HLK := hide hlk
              have HNX : Hid ((T : Int) - (C : Int) - (m : Int) - 1 = (T : Int) - (C : Int) - ((m + 1 : Nat) : Int)) := by show _ = _; omega
              go_upto_region 24 with (fail)
              rcases Nat.eq_zero_or_pos m with hm0 | hmp
              · have g1 : decide ((0 : Int) < (m : Int)) = false := by simp; omega
                have g2 : decide (0 < m) = false := by simp; omega
                clear hm0
                go_quiet ((go_at_call 23; exact Calls.quiet_of_same ((HSI.out _).mono fun e w'' h => ⟨h.1, h.2.symm⟩)))
                go_wp2
                go_roundw
                case rel => exact ⟨m + 1, by omega, by go_num, by (first | (congr 1; done) | (congr 1; omega)), HB2.out.trans (below_drewN (Below.refl _ _) _)⟩
                case measure => (simp [intOf]; try omega)
              · obtain ⟨m', rfl⟩ : ∃ m', m = m' + 1 := ⟨m - 1, by omega⟩
                have g1 : decide ((0 : Int) < (m' : Int) + 1) = true := decide_eq_true (by omega)
                obtain ⟨_, _, x2, y2, e9, _, hlk2, e0, e1⟩ := (HSLL.out.later HB2.out (Nat.le_refl _)).pair (k := m') (by omega)
                cases e9
                have hri := rise_at HLR.out.1 hlk2 HLK.out
                dsimp only at hri
                have f5 : IntKind.i64.wrap ((m' : Int) + 1 - 1) = (m' : Int) := by rw [show ((m' : Int) + 1 - 1) = (m' : Int) by omega]; exact IntWalk.i64_in _ (by omega)
                have f6 : (0 : Int) ≤ (m' : Int) ∧ (m' : Int) < (l.length : Int) ∧ (0 : Int) ≤ (m' : Int) + 1 ∧ (m' : Int) + 1 < (l.length : Int) := by omega
                obtain ⟨f6, f7, f8, f9⟩ := f6
                have f10 : ((m' : Int) + 1).toNat = m' + 1 := by omega
                cases early with
                | false =>
                  clear hlk hlk2 hmp
                  go_quiet ((go_at_call 23; exact Calls.quiet_of_same ((HSI.out _).mono fun e w'' h => ⟨h.1, h.2.symm⟩)))
                  go_wp2
                  go_roundw
                  case rel => exact ⟨(m' + 1) + 1, by omega, by go_num, by (first | (congr 1; done) | (congr 1; omega)), HB2.out.trans (below_drewN (Below.refl _ _) _)⟩
                  case measure => (simp [intOf]; try omega)
                | true =>
                  have hne := HLR.out.2.2 rfl m' _ _ hlk2 HLK.out
                  have hnq := bneq hne
                  dsimp only at hnq
                  clear hlk hlk2 hmp hne
                  go_quiet ((go_at_call 23; exact Calls.quiet_of_same ((HSI.out _).mono fun e w'' h => ⟨h.1, h.2.symm⟩)))
                  go_wp2
                  go_roundw
                  case rel => exact ⟨(m' + 1) + 1, by omega, by go_num, by (first | (congr 1; done) | (congr 1; omega)), HB2.out.trans (below_drewN (Below.refl _ _) _)⟩
                  case measure => (simp [intOf]; try omega)
            · obtain rfl : m = l.length := by omega
              go_wp2
              go_roundw
              case rel => exact ⟨k + 1, by omega, by go_num, by rw [HCS.out]; congr 1; omega, HBR2⟩
              case measure => (simp [intOf]; try omega)
        · obtain rfl : k = many := by omega
          have hc1 := HCT.out.1
          cases early with
          | false =>
            have hc2 := HCT.out.2 rfl
            have e1 : ((T : Int) - (cntL ss k : Int) == 0) = true := by rw [beq_iff_eq]; omega
            go_wp2
            go_ret
            exact ⟨rfl, HBW.out⟩
          | true =>
            by_cases h0 : cntL ss k = T
            · have e1 : ((T : Int) - (cntL ss k : Int) == 0) = true := by rw [beq_iff_eq]; omega
              go_wp2
              go_ret
              exact ⟨rfl, HBW.out⟩
            · have e1 : ((T : Int) - (cntL ss k : Int) == 0) = false := by rw [beq_eq_false_iff_ne]; omega
              have e2 : decide (cntL ss k < T) = true := decide_eq_true (by omega)
              go_wp2
              go_ret
              exact ⟨rfl, HBW.out⟩
end Go.Proofs.YtafogaopccajaaaDoor
