/- A reader of a line: an expression. -/
import Derived.Test.YtgeedjlbajmdkaaGreatDoorJobCheck
set_option linter.unusedSimpArgs false
set_option linter.unusedVariables false
namespace Go.Proofs.YtgeedjlbajmdkaaGreatDoor
open Go.RowKit

/-- what reader.expr hands back -/
def RX (rb f : Nat) (s : List UInt8) (bad : Bool) (w : World) (e : Ending) (w' : World) : Prop :=
  (∃ r : ExR, e = .returned r.agg ∧ r.tree = (readX f s bad).1 ∧ ExS (fun q => w.heap.size ≤ q) w' (f + 1) r.tree r.cells ∧ Rd w' rb (readX f s bad).2.1 (readX f s bad).2.2) ∧ KeptBut (fun q => q = rb) w w'
set_option maxRecDepth 100000 in
set_option maxHeartbeats 4000000 in
theorem rexpr_step (rb f : Nat) (IH : Hid (∀ f', f = f' + 1 → ∀ (deep : Int) (s : List UInt8) (w : World), deep + f' = 6 → (∀ w', KeptBut (fun q => q = rb) w w' → GW w') → Rd w rb s false → s.length ≤ 100000 →
    Calls Tryz.prog 95 #[.pointer (some ⟨rb, 0, none⟩), .int .i64 deep] w (RX rb f' s false w))) (deep : Int) (hd : deep + f = 6) (s : List UInt8) (bad : Bool) (w : World) (hf : f ≤ 5) (hg : ∀ w', KeptBut (fun q => q = rb) w w' → GW w') (hr : Rd w rb s bad) (hs : s.length ≤ 100000) :
    Calls Tryz.prog 95 #[.pointer (some ⟨rb, 0, none⟩), .int .i64 deep] w (RX rb f s bad w) := by
  have HG := hide hg
  obtain ⟨W1, hW1⟩ : ∃ W, W = w.alloc (.cells #[.int .i64 0, .int .i64 0, .string ⟨#[]⟩, .slice none 0 0] 67) := ⟨_, rfl⟩
  have hb1 : Below w.heap.size w W1 := by rw [hW1]; exact (Below.refl _ _).alloc (Nat.le_refl _) _
  have hk1 : Bk W1 w.heap.size [.int .i64 0, .int .i64 0, .string ⟨#[]⟩, .slice none 0 0] := by rw [hW1]; exact Bk.new rfl
  have hz1 : W1.heap.size = w.heap.size + 1 := by rw [hW1]; simp
  obtain ⟨W2, hW2⟩ : ∃ W, W = W1.alloc (.cells #[.int .i64 0, .int .i64 0, .string ⟨#[]⟩, .slice none 0 0] 67) := ⟨_, rfl⟩
  have hb2 : Below W1.heap.size W1 W2 := by rw [hW2]; exact (Below.refl _ _).alloc (Nat.le_refl _) _
  have HSZ : Hid (W2.heap.size = W1.heap.size + 1) := by show _ = _; rw [hW2]; simp
  have HE := hide (show Bk W2 (w.heap.size + 1) [.int .i64 0, .int .i64 0, .string ⟨#[]⟩, .slice none 0 0] by rw [hW2, ← hz1]; exact Bk.new rfl)
  have HRS := hide (hk1.later hb2)
  have HK := hide (KeptBut.of_below (S := fun q => q = rb) (hb1.trans (hb2.mono (by omega))) (Nat.le_refl _))
  have HR := hide (Rd.later hr (hb1.trans (hb2.mono (by omega))))
  have HLT : Hid (rb < w.heap.size) := Bk.lt hr
  have HW1 := hide hW1
  have HW2 := hide hW2
  clear hg hr hb1 hk1 hb2 hW1 hW2
  go_enter Tryz.func95, Tryz.ntmps95
  go_upto_region 2 with (fail)
  rw [← HW1.out, ← HW2.out]
  clear HW1 HW2
  have HZ2 : Hid (W2.heap.size = w.heap.size + 2) := by show _ = _; rw [HSZ.out]; omega
  have HWD := hide (word_any rb s bad W2 (HG.out _ HK.out).gm HR.out hs)
  have HWL := hide (wordR_len s)
  go_wp2_with fail
  refine HWD.out.mono ?_
  rintro e w3 ⟨⟨rfl, hr3⟩, k3⟩
  have HR3 := hide hr3
  have hne : w.heap.size ≠ rb ∧ w.heap.size + 1 ≠ rb := by have := HLT.out; omega
  have HE3 := hide (HE.out.kept k3 hne.2)
  have HRS3 := hide (HRS.out.kept k3 hne.1)
  have HK3 := hide (HK.out.trans k3)
  have HR3s : Hid (W2.heap.size ≤ w3.heap.size) := k3.size
  clear hr3 k3 HWD HE HRS HK HR
  obtain ⟨A, hA⟩ : ∃ A, (wordR s).1 = A := ⟨_, rfl⟩
  have HA := hide hA
  rw [hA]
  clear hA
  go_wp2_with (first
    | (go_at_call 86; refine (names_any _).mono ?_; rintro e w4 ⟨rfl, ho4, b4⟩; have HR4 := hide (HR3.out.later b4); have HE4 := hide (HE3.out.later b4); have HRS4 := hide (HRS3.out.later b4); have HK4 := hide (HK3.out.trans (KeptBut.of_below b4 (Nat.le_refl _))); have HO4 := hide ho4; clear HR3 HE3 HRS3 HK3 b4 ho4)
    | (at_range; refine wpList_range_own _ rfl _ 132 rfl 3 9 keyedInt Tryz.underlying132 _ w3.heap.size 10 namesD rfl HO4.out ?_; intro w5 hrg5 hg5 hs5))
  have HRG5 := hide hrg5
  have b5 := below_grown hg5
  have HR5 := hide (HR4.out.later b5)
  have HE5 := hide (HE4.out.later b5)
  have HRS5 := hide (HRS4.out.later b5)
  have HK5 := hide (HK4.out.trans (KeptBut.of_below b5 (Nat.le_refl _)))
  have HSM : Hid (w.heap.size + 2 ≤ w3.heap.size ∧ w3.heap.size < w4.heap.size) := ⟨by have := HR3s.out; have := HZ2.out; omega, HO4.out.lt⟩
  clear hrg5 hg5 hs5 b5 HR4 HE4 HRS4 HK4 HO4
  go_frame
  go_loopw [7] (fun xv wr => ∃ left cnt kv, wr.ranges Tryz.prog 3 (plainElem Tryz.prog 9) w3.heap.size w4.heap.size 10 namesD left cnt ∧ KindIs A left kv ∧ Hid (Bk wr (w.heap.size + 1) [.int .i64 kv, .int .i64 0, .string ⟨#[]⟩, .slice none 0 0]) ∧ Hid (Bk wr w.heap.size [.int .i64 0, .int .i64 0, .string ⟨#[]⟩, .slice none 0 0]) ∧ Hid (Rd wr rb (wordR s).2 bad) ∧ Hid (KeptBut (fun q => q = rb) w wr)) (fun _ wr => wr.rangeLeft w3.heap.size w4.heap.size)
  case atStart => exact ⟨_, _, 0, HRG5.out, KindIs.start A, HE5, HRS5, HR5, HK5⟩
  case round =>
    clear HRG5 HE5 HRS5 HR5 HK5
    obtain ⟨left, cnt, kv, hrg, hki, HE, HRS, HR, HK⟩ := hrel
    have HRG := hide hrg
    have HKI := hide hki
    clear hrg hki
    go_wp2_with (at_next; refine wpList_next_ranges _ rfl _ rfl 3 keyedInt (plainElem Tryz.prog 9) (Value.int .i64) Value.string (fun key kl h => by obtain ⟨x, rfl, _⟩ := Maps.keyOf_int_inv Tryz.underlying3 h; exact ⟨x, rfl⟩) (fun v y h => by obtain ⟨t, rfl, _⟩ := plainElem_string_inv Tryz.underlying9 h; exact ⟨t, rfl⟩) w3.heap.size w4.heap.size 10 namesD left cnt rfl HRG.out ?_ ?_)
    · intro hc0 hl0
      obtain rfl := HKI.out.done hl0
      have HRL : Hid (w4.heap.size < wr.heap.size) := HRG.out.lt
      clear hc0 hl0 HKI HRG
      obtain ⟨kd, hkd⟩ : ∃ kd, kindN A = kd := ⟨_, rfl⟩
      rw [hkd] at HE
      have HKD := hide hkd
      have hkr := kindN_range A
      rw [hkd] at hkr
      obtain ⟨fb, hfb⟩ : ∃ fb, decide (5 < deep) = fb := ⟨_, rfl⟩
      obtain ⟨kz, hkz⟩ : ∃ kz, (kd == 0) = kz := ⟨_, rfl⟩
      obtain ⟨b1, hb1⟩ : ∃ b1, (bad || (kz || fb)) = b1 := ⟨_, rfl⟩
      have c0 := HE.out.get (j := 0) rfl
      have d1 := HR.out.bad
      have z1 := Bk.fz HR.out 1
      have HFB := hide hfb
      have HKZ := hide hkz
      have HB1 := hide hb1
      clear hkd hb1
      go_upto_region 8 with (fail)
      go_cut [] from 24 to 39 (fun wc => wc = wr.setCell ⟨rb, 1, none⟩ (.bool b1))
      case first =>
        cases bad with
        | true =>
          obtain rfl : b1 = true := by rw [← HB1.out]; rfl
          go_wp2
          go_meet
          rfl
        | false =>
          cases kz with
          | true =>
            obtain rfl : b1 = true := by rw [← HB1.out]; rfl
            go_wp2
            go_meet
            rfl
          | false =>
            obtain rfl : b1 = fb := by rw [← HB1.out]; rfl
            go_wp2
            go_meet
            rfl
      case rest =>
      obtain ⟨rfl⟩ := hcut
      have HEX := hide (HE.out.setO (p := ⟨rb, 1, none⟩) (by have := HLT.out; simp; omega) (.bool b1))
      have HRSX := hide (HRS.out.setO (p := ⟨rb, 1, none⟩) (by have := HLT.out; simp; omega) (.bool b1))
      have HRX := hide (HR.out.setBad b1)
      have HKX := hide (HK.out.setCell (p := ⟨rb, 1, none⟩) rfl (.bool b1))
      have HSX : Hid (w.heap.size + 2 ≤ (wr.setCell ⟨rb, 1, none⟩ (.bool b1)).heap.size) := by have h1 := HRL.out; have h2 := HSM.out; show _ ≤ _; simp [World.setCell]; omega
      obtain ⟨B, hB⟩ : ∃ B, (wordR s).2 = B := ⟨_, rfl⟩
      have HBL : Hid (B.length ≤ 100000) := by show _ ≤ _; rw [← hB]; exact Nat.le_trans HWL.out.2 hs
      have HBS := hide hB
      rw [hB] at HRX
      clear c0 d1 z1 HE HRS HR HK hB
      generalize wr.setCell ⟨rb, 1, none⟩ (.bool b1) = WX at *
      have c0 := HEX.out.get (j := 0) rfl
      obtain ⟨NQ, hNQ⟩ : ∃ q, numR kd B = q := ⟨_, rfl⟩
      obtain ⟨TQ, hTQ⟩ : ∃ q, txtR kd NQ.2.1 = q := ⟨_, rfl⟩
      have HNQ := hide hNQ
      have HTQ := hide hTQ
      clear hNQ hTQ
      go_upto_block 2 with (fail)
      go_cut [9] from 42 to 62 (fun mv wd => mv = .int .i64 (manyK kd) ∧ Hid (Rd wd rb TQ.2.1 (b1 || (NQ.2.2 || TQ.2.2))) ∧ Hid (Bk wd (w.heap.size + 1) [.int .i64 kd, .int .i64 NQ.1, .string (tx TQ.1), .slice none 0 0]) ∧ Hid (Bk wd w.heap.size [.int .i64 0, .int .i64 0, .string ⟨#[]⟩, .slice none 0 0]) ∧ Hid (KeptBut (fun q => q = rb) w wd) ∧ Hid (w.heap.size + 2 ≤ wd.heap.size))
      case first =>
        have hk11 : kd = 0 ∨ kd = 1 ∨ kd = 2 ∨ kd = 3 ∨ kd = 4 ∨ kd = 5 ∨ kd = 6 ∨ kd = 7 ∨ kd = 8 ∨ kd = 9 ∨ kd = 10 := by omega
        clear HKZ HB1 hkr hkz
        rcases hk11 with rfl | rfl | rfl | rfl | rfl | rfl | rfl | rfl | rfl | rfl | rfl
        · skip
          have e1 : Hid (NQ = (0, B, false)) := by show _ = _; rw [← HNQ.out]; rfl
          have e2 : Hid (TQ = ([], B, false)) := by show _ = _; rw [← HTQ.out, e1.out]; rfl
          clear HNQ HTQ
          go_wp2
          go_meet
          rw [e1.out, e2.out, Bool.or_self, Bool.or_false]
          exact ⟨rfl, HRX, HEX, HRSX, HKX, HSX⟩
        · skip
          have e1 : Hid (NQ = (0, B, false)) := by show _ = _; rw [← HNQ.out]; rfl
          have e2 : Hid (TQ = ([], B, false)) := by show _ = _; rw [← HTQ.out, e1.out]; rfl
          clear HNQ HTQ
          go_wp2
          go_meet
          rw [e1.out, e2.out, Bool.or_self, Bool.or_false]
          exact ⟨rfl, HRX, HEX, HRSX, HKX, HSX⟩
        · skip
          have e1 : Hid (NQ = (0, B, false)) := by show _ = _; rw [← HNQ.out]; rfl
          have e2 : Hid (TQ = ([], B, false)) := by show _ = _; rw [← HTQ.out, e1.out]; rfl
          clear HNQ HTQ
          go_wp2
          go_meet
          rw [e1.out, e2.out, Bool.or_self, Bool.or_false]
          exact ⟨rfl, HRX, HEX, HRSX, HKX, HSX⟩
        · skip
          have e1 : Hid (NQ = (atoiV (wordR B).1, (wordR B).2, !numOk (wordR B).1)) := by show _ = _; rw [← HNQ.out]; rfl
          have e2 : Hid (TQ = ([], (wordR B).2, false)) := by show _ = _; rw [← HTQ.out, e1.out]; rfl
          have HNU := hide (rnumber_any rb B b1 WX (HG.out _ HKX.out) (fun w' k => HG.out _ (HKX.out.trans k)) HRX.out HBL.out)
          clear HNQ HTQ
          go_wp2_with fail
          refine HNU.out.mono ?_
          rintro e w7 ⟨⟨rfl, hr7⟩, k7⟩
          have hne7 : w.heap.size ≠ rb ∧ w.heap.size + 1 ≠ rb := by have := HLT.out; omega
          have HE7 := hide (HEX.out.kept k7 hne7.2)
          have HRS7 := hide (HRSX.out.kept k7 hne7.1)
          have HK7 := hide (HKX.out.trans k7)
          have HS7 : Hid (w.heap.size + 2 ≤ w7.heap.size) := Nat.le_trans HSX.out k7.size
          have HR7 := hide hr7
          have y1 := HE7.out.get (j := 1) rfl
          have x1 := HE7.out.fz 1
          clear hr7 k7 HNU
          obtain ⟨nn, hnn⟩ : ∃ nn, atoiV (wordR B).1 = nn := ⟨_, rfl⟩
          rw [hnn] at e1 ⊢
          have HE8 := hide (HE7.out.set (k := 1) (.int .i64 nn) rfl)
          have HRS8 := hide (HRS7.out.setO (p := ⟨w.heap.size + 1, 1, none⟩) (by simp) (.int .i64 nn))
          have HR8 := hide (Bk.setO HR7.out (p := ⟨w.heap.size + 1, 1, none⟩) (by have := HLT.out; simp; omega) (.int .i64 nn))
          have HK8 := hide (HK7.out.setNew (p := ⟨w.heap.size + 1, 1, none⟩) (by simp) (.int .i64 nn))
          have HS8 : Hid (w.heap.size + 2 ≤ (w7.setCell ⟨w.heap.size + 1, 1, none⟩ (.int .i64 nn)).heap.size) := by show _ ≤ _; simp [World.setCell]; exact HS7.out
          clear hnn
          go_wp2
          go_meet
          rw [e1.out, e2.out, Bool.or_false]
          exact ⟨rfl, HR8, HE8, HRS8, HK8, HS8⟩
        · skip
          have e1 : Hid (NQ = (0, B, false)) := by show _ = _; rw [← HNQ.out]; rfl
          have e2 : Hid (TQ = quotedR B) := by show _ = _; rw [← HTQ.out, e1.out]; rfl
          have HNU := hide (rquoted_any rb B b1 WX HRX.out HBL.out)
          clear HNQ HTQ
          go_wp2_with fail
          refine HNU.out.mono ?_
          rintro e w7 ⟨⟨rfl, hr7⟩, k7⟩
          have hne7 : w.heap.size ≠ rb ∧ w.heap.size + 1 ≠ rb := by have := HLT.out; omega
          have HE7 := hide (HEX.out.kept k7 hne7.2)
          have HRS7 := hide (HRSX.out.kept k7 hne7.1)
          have HK7 := hide (HKX.out.trans k7)
          have HS7 : Hid (w.heap.size + 2 ≤ w7.heap.size) := Nat.le_trans HSX.out k7.size
          have HR7 := hide hr7
          have y1 := HE7.out.get (j := 2) rfl
          have x1 := HE7.out.fz 2
          clear hr7 k7 HNU
          obtain ⟨nn, hnn⟩ : ∃ nn, quotedR B = nn := ⟨_, rfl⟩
          rw [hnn] at e2 HR7 ⊢
          have HE8 := hide (HE7.out.set (k := 2) (.string (tx nn.1)) rfl)
          have HRS8 := hide (HRS7.out.setO (p := ⟨w.heap.size + 1, 2, none⟩) (by simp) (.string (tx nn.1)))
          have HR8 := hide (Bk.setO HR7.out (p := ⟨w.heap.size + 1, 2, none⟩) (by have := HLT.out; simp; omega) (.string (tx nn.1)))
          have HK8 := hide (HK7.out.setNew (p := ⟨w.heap.size + 1, 2, none⟩) (by simp) (.string (tx nn.1)))
          have HS8 : Hid (w.heap.size + 2 ≤ (w7.setCell ⟨w.heap.size + 1, 2, none⟩ (.string (tx nn.1))).heap.size) := by show _ ≤ _; simp [World.setCell]; exact HS7.out
          clear hnn
          go_wp2
          go_meet
          rw [e1.out, e2.out, Bool.false_or]
          exact ⟨rfl, HR8, HE8, HRS8, HK8, HS8⟩
        · skip
          have e1 : Hid (NQ = (0, B, false)) := by show _ = _; rw [← HNQ.out]; rfl
          have e2 : Hid (TQ = ([], B, false)) := by show _ = _; rw [← HTQ.out, e1.out]; rfl
          clear HNQ HTQ
          go_wp2
          go_meet
          rw [e1.out, e2.out, Bool.or_self, Bool.or_false]
          exact ⟨rfl, HRX, HEX, HRSX, HKX, HSX⟩
        · skip
          have e1 : Hid (NQ = (atoiV (wordR B).1, (wordR B).2, !numOk (wordR B).1)) := by show _ = _; rw [← HNQ.out]; rfl
          have e2 : Hid (TQ = ([], (wordR B).2, false)) := by show _ = _; rw [← HTQ.out, e1.out]; rfl
          have HNU := hide (rnumber_any rb B b1 WX (HG.out _ HKX.out) (fun w' k => HG.out _ (HKX.out.trans k)) HRX.out HBL.out)
          clear HNQ HTQ
          go_wp2_with fail
          refine HNU.out.mono ?_
          rintro e w7 ⟨⟨rfl, hr7⟩, k7⟩
          have hne7 : w.heap.size ≠ rb ∧ w.heap.size + 1 ≠ rb := by have := HLT.out; omega
          have HE7 := hide (HEX.out.kept k7 hne7.2)
          have HRS7 := hide (HRSX.out.kept k7 hne7.1)
          have HK7 := hide (HKX.out.trans k7)
          have HS7 : Hid (w.heap.size + 2 ≤ w7.heap.size) := Nat.le_trans HSX.out k7.size
          have HR7 := hide hr7
          have y1 := HE7.out.get (j := 1) rfl
          have x1 := HE7.out.fz 1
          clear hr7 k7 HNU
          obtain ⟨nn, hnn⟩ : ∃ nn, atoiV (wordR B).1 = nn := ⟨_, rfl⟩
          rw [hnn] at e1 ⊢
          have HE8 := hide (HE7.out.set (k := 1) (.int .i64 nn) rfl)
          have HRS8 := hide (HRS7.out.setO (p := ⟨w.heap.size + 1, 1, none⟩) (by simp) (.int .i64 nn))
          have HR8 := hide (Bk.setO HR7.out (p := ⟨w.heap.size + 1, 1, none⟩) (by have := HLT.out; simp; omega) (.int .i64 nn))
          have HK8 := hide (HK7.out.setNew (p := ⟨w.heap.size + 1, 1, none⟩) (by simp) (.int .i64 nn))
          have HS8 : Hid (w.heap.size + 2 ≤ (w7.setCell ⟨w.heap.size + 1, 1, none⟩ (.int .i64 nn)).heap.size) := by show _ ≤ _; simp [World.setCell]; exact HS7.out
          clear hnn
          go_wp2
          go_meet
          rw [e1.out, e2.out, Bool.or_false]
          exact ⟨rfl, HR8, HE8, HRS8, HK8, HS8⟩
        · skip
          have e1 : Hid (NQ = (atoiV (wordR B).1, (wordR B).2, !numOk (wordR B).1)) := by show _ = _; rw [← HNQ.out]; rfl
          have e2 : Hid (TQ = ([], (wordR B).2, false)) := by show _ = _; rw [← HTQ.out, e1.out]; rfl
          have HNU := hide (rnumber_any rb B b1 WX (HG.out _ HKX.out) (fun w' k => HG.out _ (HKX.out.trans k)) HRX.out HBL.out)
          clear HNQ HTQ
          go_wp2_with fail
          refine HNU.out.mono ?_
          rintro e w7 ⟨⟨rfl, hr7⟩, k7⟩
          have hne7 : w.heap.size ≠ rb ∧ w.heap.size + 1 ≠ rb := by have := HLT.out; omega
          have HE7 := hide (HEX.out.kept k7 hne7.2)
          have HRS7 := hide (HRSX.out.kept k7 hne7.1)
          have HK7 := hide (HKX.out.trans k7)
          have HS7 : Hid (w.heap.size + 2 ≤ w7.heap.size) := Nat.le_trans HSX.out k7.size
          have HR7 := hide hr7
          have y1 := HE7.out.get (j := 1) rfl
          have x1 := HE7.out.fz 1
          clear hr7 k7 HNU
          obtain ⟨nn, hnn⟩ : ∃ nn, atoiV (wordR B).1 = nn := ⟨_, rfl⟩
          rw [hnn] at e1 ⊢
          have HE8 := hide (HE7.out.set (k := 1) (.int .i64 nn) rfl)
          have HRS8 := hide (HRS7.out.setO (p := ⟨w.heap.size + 1, 1, none⟩) (by simp) (.int .i64 nn))
          have HR8 := hide (Bk.setO HR7.out (p := ⟨w.heap.size + 1, 1, none⟩) (by have := HLT.out; simp; omega) (.int .i64 nn))
          have HK8 := hide (HK7.out.setNew (p := ⟨w.heap.size + 1, 1, none⟩) (by simp) (.int .i64 nn))
          have HS8 : Hid (w.heap.size + 2 ≤ (w7.setCell ⟨w.heap.size + 1, 1, none⟩ (.int .i64 nn)).heap.size) := by show _ ≤ _; simp [World.setCell]; exact HS7.out
          clear hnn
          go_wp2
          go_meet
          rw [e1.out, e2.out, Bool.or_false]
          exact ⟨rfl, HR8, HE8, HRS8, HK8, HS8⟩
        · skip
          have e1 : Hid (NQ = (0, B, false)) := by show _ = _; rw [← HNQ.out]; rfl
          have e2 : Hid (TQ = ([], B, false)) := by show _ = _; rw [← HTQ.out, e1.out]; rfl
          clear HNQ HTQ
          go_wp2
          go_meet
          rw [e1.out, e2.out, Bool.or_self, Bool.or_false]
          exact ⟨rfl, HRX, HEX, HRSX, HKX, HSX⟩
        · skip
          have e1 : Hid (NQ = (0, B, false)) := by show _ = _; rw [← HNQ.out]; rfl
          have e2 : Hid (TQ = ([], B, false)) := by show _ = _; rw [← HTQ.out, e1.out]; rfl
          clear HNQ HTQ
          go_wp2
          go_meet
          rw [e1.out, e2.out, Bool.or_self, Bool.or_false]
          exact ⟨rfl, HRX, HEX, HRSX, HKX, HSX⟩
        · skip
          have e1 : Hid (NQ = (0, B, false)) := by show _ = _; rw [← HNQ.out]; rfl
          have e2 : Hid (TQ = ([], B, false)) := by show _ = _; rw [← HTQ.out, e1.out]; rfl
          clear HNQ HTQ
          go_wp2
          go_meet
          rw [e1.out, e2.out, Bool.or_self, Bool.or_false]
          exact ⟨rfl, HRX, HEX, HRSX, HKX, HSX⟩
      case rest =>
      obtain ⟨rfl, HRD, HED, HRSD, HKD2, HSZE⟩ := hcut
      obtain ⟨nn, hnn⟩ : ∃ nn, NQ.1 = nn := ⟨_, rfl⟩
      obtain ⟨tt, htt⟩ : ∃ tt, TQ.1 = tt := ⟨_, rfl⟩
      obtain ⟨s3, hs3⟩ : ∃ s3, TQ.2.1 = s3 := ⟨_, rfl⟩
      obtain ⟨b2, hb2⟩ : ∃ b2, (b1 || (NQ.2.2 || TQ.2.2)) = b2 := ⟨_, rfl⟩
      rw [hnn, htt] at HED
      rw [hs3, hb2] at HRD
      have hnb : -9223372036854775808 ≤ nn ∧ nn ≤ 9223372036854775807 := by rw [← hnn, ← HNQ.out]; exact numR_bd _ _
      have hl3 : tt.length ≤ 100000 ∧ s3.length ≤ 100000 := by
        have h1 := numR_len kd B
        have h2 := txtR_len kd NQ.2.1
        rw [HNQ.out] at h1
        rw [HTQ.out, htt, hs3] at h2
        have h3 := HBL.out
        omega
      have HEQ : Hid (readX f s bad = (.mk kd nn (tx tt) (readKids (fun s => readX (f - 1) s false) (manyK kd) s3 b2).1, (readKids (fun s => readX (f - 1) s false) (manyK kd) s3 b2).2)) := by
        refine readX_eq f s bad kd nn tt s3 b1 b2 ?_ ?_
        · rw [ownX]
          rw [HA.out, HBS.out, HKD.out, HNQ.out, HTQ.out, hnn, htt, hs3]
        · intro q hq
          have h1 : (ownX s).2.2.2.2 = (decide (kd = 0) || (NQ.2.2 || TQ.2.2)) := by rw [ownX, HA.out, HBS.out, HKD.out, HNQ.out, HTQ.out]
          rw [hq, h1, ← hb2, ← HB1.out, ← HKZ.out, ← HFB.out]
          have e1 : (kd == 0) = decide (kd = 0) := by by_cases h : kd = 0 <;> simp [h]
          have e2 : decide (5 < deep) = decide (f = 0) := by rw [decide_eq_decide]; omega
          rw [e1, e2]
          cases bad <;> cases decide (kd = 0) <;> cases decide (f = 0) <;> cases NQ.2.2 <;> cases TQ.2.2 <;> rfl
      have HF0 : Hid (f = 0 → b2 = true) := fun h0 => by
        rw [← hb2, ← HB1.out, ← HFB.out]
        have : decide (5 < deep) = true := by rw [decide_eq_true_eq]; omega
        rw [this]
        simp
      have hmk : manyK kd ≤ 2 := by unfold manyK; split; omega; split <;> omega
      obtain ⟨MK, hMK⟩ : ∃ MK, manyK kd = MK := ⟨_, rfl⟩
      rw [hMK] at HEQ hmk ⊢
      have HSZD : Hid (w.heap.size + 2 ≤ wc.heap.size) := HSZE.out
      clear hnn htt hs3 hb2 hMK hfb hkz HNQ HTQ HKD HB1 HKZ HFB HBS HA HWL HBL
      obtain ⟨i0, hi0, hz0, hz1', hz2⟩ := info_parts infoExprR
      go_wp2
      go_loopw [64] (fun iv wr => ∃ (j : Nat) (l : List ExR) (sj : List UInt8) (bj : Bool) (ea : Option Addr) (ec : Nat), j ≤ MK ∧ iv = .int .i64 j ∧ l.length ≤ j ∧ sj.length ≤ 100000 ∧ Hid (readKids (fun s => readX (f - 1) s false) MK s3 b2 = (l.map ExR.tree ++ (readKids (fun s => readX (f - 1) s false) (MK - j) sj bj).1, (readKids (fun s => readX (f - 1) s false) (MK - j) sj bj).2)) ∧ Hid (f = 0 → bj = true) ∧ Hid (Rd wr rb sj bj) ∧ Hid (Bk wr (w.heap.size + 1) [.int .i64 kd, .int .i64 nn, .string (tx tt), .slice ea l.length ec]) ∧ Hid (Bk wr w.heap.size [.int .i64 0, .int .i64 0, .string ⟨#[]⟩, .slice none 0 0]) ∧ Hid (KidsIn wr (w.heap.size + 2) f (.slice ea l.length ec) l) ∧ Hid (KeptBut (fun q => q = rb) w wr) ∧ Hid (w.heap.size + 2 ≤ wr.heap.size)) (fun iv _ => MK - (intOf iv).toNat)
      case atStart => exact ⟨0, [], s3, b2, none, 0, by omega, rfl, by simp, hl3.2, (by show _ = _; simp), HF0, HRD, HED, HRSD, KidsIn.nil, HKD2, HSZD⟩
      case round =>
        clear HRD HED HRSD HKD2 HSZD HF0
        obtain ⟨j, l, sj, bj, ea, ec, hj, rfl, hlj, hsj, HKI, HF0, HRD, HED, HRSD, HKI9, HKK, HSZ9⟩ := hrel
        by_cases hlt : j < MK
        · cases bj with
          | true =>
            have HKI2 : Hid (readKids (fun s => readX (f - 1) s false) MK s3 b2 = (l.map ExR.tree ++ (readKids (fun s => readX (f - 1) s false) (MK - (j + 1)) sj true).1, (readKids (fun s => readX (f - 1) s false) (MK - (j + 1)) sj true).2)) := by
              show _ = _
              rw [HKI.out, readKids_bad, readKids_bad]
            have d1 := HRD.out.bad
            go_wp2
            go_roundw
            case rel => exact ⟨j + 1, l, sj, true, ea, ec, by omega, by go_num, by omega, hsj, HKI2, (fun _ => rfl), HRD, HED, HRSD, HKI9, HKK, HSZ9⟩
            case measure => (simp [intOf]; try omega)
          | false =>
            obtain ⟨f', rfl⟩ : ∃ f', f = f' + 1 := ⟨f - 1, by have h0 : f ≠ 0 := fun h0 => (by have h1 := HF0.out h0; cases h1); omega⟩
            have HCL := hide (IH.out f' rfl (deep + 1) sj wr.drew (by omega) (fun w' k => HG.out w' (HKK.out.drew.trans k)) (HRD.out) hsj)
            have HPL : Hid ((readX f' sj false).2.1.length ≤ 100000) := Nat.le_trans (readX_len _ _ _) hsj
            have HKI2 : Hid (∀ r : ExR, r.tree = (readX f' sj false).1 → readKids (fun s => readX (f' + 1 - 1) s false) MK s3 b2 = ((l ++ [r]).map ExR.tree ++ (readKids (fun s => readX (f' + 1 - 1) s false) (MK - (j + 1)) (readX f' sj false).2.1 (readX f' sj false).2.2).1, (readKids (fun s => readX (f' + 1 - 1) s false) (MK - (j + 1)) (readX f' sj false).2.1 (readX f' sj false).2.2).2)) := fun r hr => by
              rw [HKI.out, show MK - j = (MK - (j + 1)) + 1 by omega, readKids, if_neg (by decide)]
              simp only [Nat.add_sub_cancel, List.map_append, List.map_cons, List.map_nil, hr, List.append_assoc, List.cons_append, List.nil_append]
            unfold RX at HCL
            generalize readX f' sj false = px at *
            have HFL : Hid (l.length + 1 ≤ 1000000000) := by show _ ≤ _; omega
            have c3 := HED.out.get (j := 3) rfl
            have d1 := HRD.out.bad
            have HNE : Hid (w.heap.size ≠ rb ∧ w.heap.size + 1 ≠ rb ∧ rb < w.heap.size + 2) := by have := HLT.out; show _ ∧ _; omega
            have HON : Hid (∀ k, (Value.slice ea l.length ec).ownBlock = some k → ¬ k = rb) := fun k e h => by have h1 := (HKI9.out.own.lt k e).1; have h2 := HNE.out.2.2; omega
            have HOE : Hid (∀ k, (Value.slice ea l.length ec).ownBlock = some k → w.heap.size + 2 ≤ k) := fun k e => (HKI9.out.own.lt k e).1
            have HL1 : Hid (∀ r : ExR, (l ++ [r]).length = l.length + 1) := fun r => by simp
            have hdd : IntKind.i64.wrap (deep + 1) = deep + 1 := IntWalk.i64_in _ (by omega)
            clear HKI HF0
            go_upto_region 26 with (fail)
            refine wp_region_noPanic ?_
            refine wp_region_heldE_drew (S := (fun w' => KeptBut (fun q => q = rb) wr w')) (E := [7, 9]) (by kernel_rfl) ?_ (fun hHeld => ?_)
            · (first | exact (KeptBut.refl _ _).drew | exact hHeld.trans k1 | exact hHeld.alloc _ | exact hHeld)
            try dsimp only [List.size_toArray, List.length_cons, List.length_nil, Nat.reduceAdd]
            refine wpAnyHE_takeP (i := 0) (oi := { dst := some 71, op := Op.fieldAddr 67 (Operand.tmp 5) 3, type := 0, pos := "job.go:190", after := #[], guard := none }) (v := ?_) rfl (by kernel_rfl) (by kernel_rfl) (by kernel_rfl) (fun _ _ _ h => h) (Or.inl ⟨by rfl, ?_⟩) ?_
            rotate_left
            · (intro w _; go_simp; try with_reducible rfl)
            try simp only [Act.put, List.setIfInBounds_toArray, List.set_cons_zero, List.set_cons_succ]
            refine wpAnyHE_takeP (i := 2) (oi := { dst := some 73, op := Op.move (Operand.tmp 0), type := 86, pos := "job.go:190", after := #[], guard := none }) (v := ?_) rfl (by kernel_rfl) (by kernel_rfl) (by kernel_rfl) (fun _ _ _ h => h) (Or.inl ⟨by rfl, ?_⟩) ?_
            rotate_left
            · (intro w _; go_simp; try with_reducible rfl)
            try simp only [Act.put, List.setIfInBounds_toArray, List.set_cons_zero, List.set_cons_succ]
            refine wpAnyHE_takeP (i := 3) (oi := { dst := some 74, op := Op.move (Operand.tmp 1), type := 3, pos := "job.go:190", after := #[], guard := none }) (v := ?_) rfl (by kernel_rfl) (by kernel_rfl) (by kernel_rfl) (fun _ _ _ h => h) (Or.inl ⟨by rfl, ?_⟩) ?_
            rotate_left
            · (intro w _; go_simp; try with_reducible rfl)
            try simp only [Act.put, List.setIfInBounds_toArray, List.set_cons_zero, List.set_cons_succ]
            refine wpAnyHE_take (i := 1) (oi := { dst := some 72, op := Op.load 65 (Operand.tmp 71), type := 65, pos := "job.go:190", after := #[{ on := 0, ground := Ground.data }], guard := none }) (v := ?_) [[1], [1]] rfl (by kernel_rfl) (by kernel_rfl) (by kernel_rfl) (by kernel_rfl) (by kernel_rfl) (fun _ _ _ h => h) (Or.inl ⟨by rfl, ?_⟩) (by assumption) ?_
            rotate_left
            · (intro w hSw; (try dsimp only at hSw); (have t0 := KeptBut.cell hSw c3 HNE.out.2.1); go_simp; try with_reducible rfl)
            try simp only [Act.put, List.setIfInBounds_toArray, List.set_cons_zero, List.set_cons_succ]
            refine wpAnyHE_takeP (i := 4) (oi := { dst := some 75, op := Op.binOp BinOp.add 3 (Operand.tmp 74) (Operand.const (Value.int IntKind.i64 1)) 3, type := 3, pos := "job.go:190", after := #[{ on := 3, ground := Ground.data }], guard := none }) (v := ?_) rfl (by kernel_rfl) (by kernel_rfl) (by kernel_rfl) (fun _ _ _ h => h) (Or.inl ⟨by rfl, ?_⟩) ?_
            rotate_left
            · (intro w _; go_simp; try with_reducible rfl)
            try simp only [Act.put, List.setIfInBounds_toArray, List.set_cons_zero, List.set_cons_succ]
            refine wpAnyHE_ready (rs := [5]) (by kernel_rfl) (by simp) ?_
            refine AllReadyE.cons (o := { dst := some 76, op := Op.call { callee := Callee.value (Operand.func 95), args := #[Operand.tmp 73, Operand.tmp 75], argTypes := #[86, 3] }, type := 67, pos := "job.go:190", after := #[{ on := 2, ground := Ground.data }, { on := 4, ground := Ground.data }], guard := none }) rfl (fun KH hKH => ?_) AllReadyE.nil
            go_simp
            (go_at_call 95; refine HCL.out.mono ?_; rintro e w1 ⟨⟨⟨rk, rn, rs, rao, rcap, ra⟩, rfl, hrt, hrx, hrd⟩, k1⟩; dsimp only [ExR.agg])
            try go_wp2_with fail
            refine hKH.out _ _ ?_ (fun hNew => ?_)
            · (first | exact (KeptBut.refl _ _).drew | exact hHeld.trans k1 | exact hHeld.alloc _ | exact hHeld)
            clear hKH KH hHeld
            have hHeld := hNew
            clear hNew
            try simp only [Act.put, List.setIfInBounds_toArray, List.set_cons_zero, List.set_cons_succ]
            refine wpAnyHE_ready (rs := [6]) (by kernel_rfl) (by simp) ?_
            refine AllReadyE.cons (o := { dst := some 77, op := Op.buildSlice 65 1 #[(0, Operand.tmp 76)], type := 65, pos := "job.go:190", after := #[{ on := 5, ground := Ground.data }], guard := none }) rfl (fun KH hKH => ?_) AllReadyE.nil
            go_simp
            refine hKH.out _ _ ?_ (fun hNew => ?_)
            · (first | exact (KeptBut.refl _ _).drew | exact hHeld.trans k1 | exact hHeld.alloc _ | exact hHeld)
            clear hKH KH hHeld
            have hHeld := hNew
            clear hNew
            try simp only [Act.put, List.setIfInBounds_toArray, List.set_cons_zero, List.set_cons_succ]
            refine wpAnyHE_ready (rs := [7]) (by kernel_rfl) (by simp) ?_
            refine AllReadyE.consE (o := { dst := some 78, op := Op.call { callee := Callee.builtin Builtin.append, args := #[Operand.tmp 72, Operand.tmp 77], argTypes := #[65, 65] }, type := 65, pos := "job.go:190", after := #[{ on := 1, ground := Ground.data }, { on := 6, ground := Ground.data }, { on := 5, ground := Ground.chain }], guard := none }) rfl (by kernel_rfl) (fun KH hKH => ?_) AllReadyE.nil
            have hHE := hHeld
            refine step_append_one (enc := ExR.cells) ExR.cells_len _ _ 65 i0 _ rfl rfl Tryz.underlying65 hi0 hz0 hz1' hz2 rfl (by decide) (by decide) (KeptBut.own hHE HKI9.out.own HON.out) (Below.refl _ _) (Nat.le_trans HSZ9.out hHE.size) HFL.out rfl (⟨rk, rn, rs, rao, rcap, ra⟩ : ExR) ⟨w1.heap.size, 0, none⟩ 1 rfl (news_at rfl rfl) (one_exr _) ?_
            intro v' w2 ho hb1 hgr hat
            have hkk := KeptBut.of_grown (S := fun q => (Value.slice ea l.length ec).ownBlock = some q) hgr fun q e => e
            have HB5 := hide ((HED.out.kept hHE HNE.out.2.1).kept hkk fun e => by have h1 := HOE.out _ e; omega)
            have HRS5 := hide (((HRSD.out.kept hHE HNE.out.1).kept hkk fun e => by have h1 := HOE.out _ e; omega).setO (p := ⟨w.heap.size + 1, 3, none⟩) (by simp) v')
            have HRD5 := hide (Bk.setO (Bk.kept (Rd.later hrd ((Below.refl _ _).alloc (Nat.le_refl _) _)) hkk fun e => by have h1 := HOE.out _ e; have h2 := HNE.out.2.2; omega) (p := ⟨w.heap.size + 1, 3, none⟩) (by have h2 := HNE.out.2.1; exact h2) v')
            have HKI5 := hide (HKI9.out.put (eb := w.heap.size + 1) (k := 3) (u := v') HNE.out.2.2 (Nat.lt_succ_self _) HSZ9.out hHE (hrx.later ((Below.refl _ _).alloc (Nat.le_refl _) _)) ho hgr hat)
            have HKK5 := hide (((HKK.out.trans hHE).grown hgr fun q e => by have h1 := HOE.out q e; omega).setNew (p := ⟨w.heap.size + 1, 3, none⟩) (by simp) v')
            have HSZ5 : Hid (w.heap.size + 2 ≤ (w2.setCell ⟨w.heap.size + 1, 3, none⟩ v').heap.size) := by have h1 := hkk.size; have h2 := hHE.size; have h3 := HSZ9.out; show _ ≤ _; simp [World.setCell]; omega
            have HKI6 := hide (HKI2.out _ hrt)
            have s6 := HB5.out.get (j := 3) rfl
            have y6 := HB5.out.fz 3
            have HB6 := hide (HB5.out.set (k := 3) v' rfl)
            obtain ⟨na, nc, hv'⟩ := id ho.1
            subst hv'
            rw [HL1.out] at HB6 HKI5 HRS5 HRD5 HKK5 HSZ5
            clear ho hb1 hgr hat hkk hHE hrx hrd hrt k1 c3 HB5
            refine hKH.out _ _ ?_
            clear hKH KH
            try clear hHeld
            try simp only [Act.put, List.setIfInBounds_toArray, List.set_cons_zero, List.set_cons_succ]
            refine wpAnyHE_takeP (i := 8) (oi := { dst := some 79, op := Op.fieldAddr 67 (Operand.tmp 5) 3, type := 0, pos := "job.go:190", after := #[{ on := 0, ground := Ground.phase }, { on := 1, ground := Ground.phase }, { on := 2, ground := Ground.phase }, { on := 3, ground := Ground.phase }, { on := 4, ground := Ground.phase }, { on := 5, ground := Ground.phase }, { on := 6, ground := Ground.phase }, { on := 7, ground := Ground.phase }], guard := none }) (v := ?_) rfl (by kernel_rfl) (by kernel_rfl) (by kernel_rfl) (fun _ _ _ h => h) (Or.inl ⟨by rfl, ?_⟩) ?_
            rotate_left
            · (intro w _; go_simp; try with_reducible rfl)
            try simp only [Act.put, List.setIfInBounds_toArray, List.set_cons_zero, List.set_cons_succ]
            refine wpAnyHE_ready (rs := [9]) (by kernel_rfl) (by simp) ?_
            refine AllReadyE.consE (o := { dst := none, op := Op.store 65 (Operand.tmp 79) (Operand.tmp 78), type := 0, pos := "job.go:190", after := #[{ on := 8, ground := Ground.data }, { on := 7, ground := Ground.data }, { on := 7, ground := Ground.chain }, { on := 0, ground := Ground.phase }, { on := 1, ground := Ground.phase }, { on := 2, ground := Ground.phase }, { on := 3, ground := Ground.phase }, { on := 4, ground := Ground.phase }, { on := 5, ground := Ground.phase }, { on := 6, ground := Ground.phase }, { on := 7, ground := Ground.phase }], guard := none }) rfl (by kernel_rfl) (fun KH hKH => ?_) AllReadyE.nil
            go_simp
            refine hKH.out _ _ ?_
            clear hKH KH
            try clear hHeld
            try simp only [Act.put, List.setIfInBounds_toArray, List.set_cons_zero, List.set_cons_succ]
            refine wpAnyHE_done (by kernel_rfl) ?_ _
            refine NoPanic.normal ?_
            go_wp2
            go_roundw
            case rel => exact ⟨j + 1, _, px.2.1, px.2.2, _, _, by omega, by go_num, by rw [HL1.out]; omega, HPL.out, HKI6, (fun h => by cases h), HRD5, (by rw [HL1.out]; exact HB6), HRS5, (by rw [HL1.out]; exact HKI5), HKK5, HSZ5⟩
            case measure => (simp [intOf]; try omega)
        · obtain rfl : j = MK := by omega
          have HRE : Hid (readX f s bad = (.mk kd nn (tx tt) (l.map ExR.tree), sj, bj)) := by
            show _ = _
            rw [HEQ.out, HKI.out, Nat.sub_self]
            simp [readKids]
          have hts : (tx tt).size ≤ maxLen := by rw [tx_size]; unfold maxLen; omega
          have HTR := hide (HKI9.out.tree (k := kd) (n := nn) (t := tx tt) (S := fun q => w.heap.size + 2 ≤ q) (by omega) hnb hts (by unfold maxLen; omega) (fun q h => h))
          have c0 := HED.out.get (j := 0) rfl
          have c1 := HED.out.get (j := 1) rfl
          have c2 := HED.out.get (j := 2) rfl
          have c3 := HED.out.get (j := 3) rfl
          have r0 := HRSD.out.get (j := 0) rfl
          have r1 := HRSD.out.get (j := 1) rfl
          have r2 := HRSD.out.get (j := 2) rfl
          have r3 := HRSD.out.get (j := 3) rfl
          have y0 := HRSD.out.fz 0
          have y1 := HRSD.out.fz 1
          have y2 := HRSD.out.fz 2
          have y3 := HRSD.out.fz 3
          have hk9 := HRSD.out.set4 (.int .i64 kd) (.int .i64 nn) (.string (tx tt)) (.slice ea l.length ec)
          have f0 := hk9.get (j := 0) rfl
          have f1 := hk9.get (j := 1) rfl
          have f2 := hk9.get (j := 2) rfl
          have f3 := hk9.get (j := 3) rfl
          have HKF := hide (kept_set4 (.int .i64 kd) (.int .i64 nn) (.string (tx tt)) (.slice ea l.length ec) HKK.out (b := w.heap.size) (.inr (Nat.le_refl _)))
          have hkf2 := kept_set4 (.int .i64 kd) (.int .i64 nn) (.string (tx tt)) (.slice ea l.length ec) (KeptBut.refl (fun q => q = w.heap.size) wr) (b := w.heap.size) (.inl rfl)
          have HTF := hide ((HTR.out.kept hkf2 fun q hq e => by omega).mono (T := fun q => w.heap.size ≤ q) fun q hq => by omega)
          have HRF := hide (Bk.kept HRD.out hkf2 fun e => by have := HLT.out; omega)
          clear hk9 hkf2 hts HTR HEQ HKI HF0
          go_wp2
          refine bodyPost_ret (v := .agg #[.int .i64 kd, .int .i64 nn, .string (tx tt), .slice ea l.length ec]) (by simp [results, Tryz.results95, go_sem, f0, f1, f2, f3, y0, y1, y2, y3]) rfl ?_
          refine ⟨⟨⟨kd, nn, tx tt, ea, ec, l.map ExR.tree⟩, by simp [ExR.agg], by rw [HRE.out]; rfl, HTF.out, ?_⟩, HKF.out⟩
          rw [HRE.out]
          exact HRF.out
    · intro x c kl y yp w6 cnt6 hkey hlk hRc hat hrg6 hlt6 hg6 hs6 hen
      obtain ⟨x', ex, rfl, hwx⟩ := Maps.keyOf_int_inv Tryz.underlying3 hkey
      cases ex
      obtain ⟨c', ec, hyy, _⟩ := plainElem_string_inv Tryz.underlying9 hRc
      cases ec
      cases hyy
      obtain ⟨hx, hcn⟩ := names_key hat
      have hct : c = tx (nameK x) := by rw [← hcn, tx_of]
      subst hct
      have k6 := kept_grown (S := fun q => q = w4.heap.size) hg6 rfl
      have hne : w.heap.size ≠ w4.heap.size ∧ w.heap.size + 1 ≠ w4.heap.size ∧ rb ≠ w4.heap.size := by have := HSM.out; have := HLT.out; omega
      have HE6 := hide (HE.out.kept k6 hne.2.1)
      have HRS6 := hide (HRS.out.kept k6 hne.1)
      have HR6 := hide (Bk.kept HR.out k6 hne.2.2)
      have HK6 := hide (HK.out.grown hg6 fun q e => by cases e; have := HSM.out; omega)
      have HMS : Hid (w6.rangeLeft w3.heap.size w4.heap.size < wr.rangeLeft w3.heap.size w4.heap.size) := by show _ < _; rw [hrg6.left_eq, HRG.out.left_eq]; exact hlt6
      have HRG6 := hide hrg6
      have c0 := HE6.out.get (j := 0) rfl
      have z0 := HE6.out.fz 0
      clear hkey hlk hRc hat hwx hcn hrg6 hlt6 hg6 hs6 k6 hne HE HRS HR HK
      by_cases hn : nameK x = A
      · have HKI6 := hide (HKI.out.hit hx hn)
        have t1 : ((tx (nameK x)).toList == (tx A).toList) = true := by rw [hn]; exact beqq _
        have HRG7 := hide (ranges_set HRG6.out (e := w.heap.size + 1) (j := 0) (by have := HSM.out; omega) (by have := HSM.out; omega) (.int .i64 x))
        have HE7 := hide (HE6.out.set (k := 0) (.int .i64 x) rfl)
        have HRS7 := hide (HRS6.out.setO (p := ⟨w.heap.size + 1, 0, none⟩) (by simp) (.int .i64 x))
        have HR7 := hide (Bk.setO HR6.out (p := ⟨w.heap.size + 1, 0, none⟩) (by have := HLT.out; simp; omega) (.int .i64 x))
        have HK7 := hide (HK6.out.setNew (p := ⟨w.heap.size + 1, 0, none⟩) (by simp) (.int .i64 x))
        have HMS7 : Hid ((w6.setCell ⟨w.heap.size + 1, 0, none⟩ (.int .i64 x)).rangeLeft w3.heap.size w4.heap.size < wr.rangeLeft w3.heap.size w4.heap.size) := by show _ < _; rw [HRG7.out.left_eq, ← HRG6.out.left_eq]; exact HMS.out
        clear hn HKI HRG HRG6 HE6 HRS6 HR6 HK6 HMS
        go_wp2
        go_roundw
        case rel => exact ⟨_, _, x, HRG7.out, HKI6.out, HE7, HRS7, HR7, HK7⟩
        case measure => exact HMS7.out
      · have HKI6 := hide (HKI.out.miss hx hn)
        have t1 : ((tx (nameK x)).toList == (tx A).toList) = false := by rw [tl, tl, tx_list, tx_list, beq_eq_false_iff_ne]; exact hn
        clear hn HKI HRG c0 z0
        go_wp2
        go_roundw
        case rel => exact ⟨_, _, kv, HRG6.out, HKI6.out, HE6, HRS6, HR6, HK6⟩
        case measure => exact HMS.out
theorem rexpr_any (rb f : Nat) : ∀ (deep : Int) (s : List UInt8) (bad : Bool) (w : World), deep + f = 6 → f ≤ 5 → (∀ w', KeptBut (fun q => q = rb) w w' → GW w') → Rd w rb s bad → s.length ≤ 100000 →
    Calls Tryz.prog 95 #[.pointer (some ⟨rb, 0, none⟩), .int .i64 deep] w (RX rb f s bad w) := by
  induction f with
  | zero => exact fun deep s bad w hd hf hg hr hs => rexpr_step rb 0 (fun f' h => by omega) deep hd s bad w hf hg hr hs
  | succ f ih => exact fun deep s bad w hd hf hg hr hs => rexpr_step rb (f + 1) (fun f' h => by cases h; exact fun deep s w hd hg hr hs => ih deep s false w hd (by omega) hg hr hs) deep hd s bad w hf hg hr hs
end Go.Proofs.YtgeedjlbajmdkaaGreatDoor
