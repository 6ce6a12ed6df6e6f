/- The reference: the text of an expression. -/
import Derived.Test.YtgeedjlbajmdkaaGreatDoorRefQ
import Derived.Test.YtgeedjlbajmdkaaGreatDoorDecI
set_option linter.unusedSimpArgs false
set_option linter.unusedVariables false
namespace Go.Proofs.YtgeedjlbajmdkaaGreatDoor
open Go.RowKit

set_option maxRecDepth 100000 in
set_option maxHeartbeats 1000000 in
theorem exprText_any (d : Nat) : ∀ (k n : Int) (s : ByteArray) (a : List ExprV) (ao : Option Addr) (cap : Nat) (w : World) (text each : Bool), ExAt w d (.mk k n s a) (encX k n s ao a.length cap) → shE (.mk k n s a) text each = true → (ExprV.mk k n s a).nodes ≤ 1000 →
    Calls Tryz.prog 46 #[.agg #[.int .i64 k, .int .i64 n, .string s, .slice ao a.length cap]] w fun e w' => e = .returned (.string (tx (textX (.mk k n s a)))) ∧ Below w.heap.size w w' := by
  induction d with
  | zero => intro _ _ _ _ _ _ _ _ _ h; exact h.elim
  | succ d ih =>
    intro k n s a ao cap w text each h hsh hnd
    obtain ⟨h1, h2, h3, h4, h5, h6⟩ := shE_own hsh
    obtain ⟨RT, hRT⟩ : ∃ RT, textX (.mk k n s a) = RT := ⟨_, rfl⟩
    have HL : Hid (RT.length ≤ 101000) := by have h7 := textX_len _ _ _ hsh; rw [hRT] at h7; show _ ≤ _; omega
    rw [hRT]
    have HRT := hide hRT
    clear hRT
    obtain ⟨_, _, h8, _, h7, h9⟩ := shE_parts hsh
    have HN := hide h2
    have HS := hide h4
    have HSO := hide h8
    have HKL := hide (shL_mem h9 h7)
    have HND := hide hnd
    have IH := hide ih
    obtain ⟨ao', cap', he, hk, hn, hs, ha, hkids⟩ := h
    obtain ⟨rfl, rfl⟩ : ao = ao' ∧ cap = cap' := by simp [encX] at he; exact ⟨he.1, he.2⟩
    clear he ih h2 h4 h5 h6 h7 h8 h9 hsh hnd
    have hb1 := box_below w k n s ao a.length cap
    obtain ⟨c0, c1, c2, c3⟩ := box_cells w k n s ao a.length cap
    have HK := hide (hkids.mono (E' := ExAt (boxX w k n s ao a.length cap) d) (fun x q hq => hq.later hb1 (Nat.le_refl _)) hb1 (Nat.le_refl _))
    have HB := hide hb1
    clear hkids hb1
    unfold maxLen at hs ha
    obtain ⟨W1, hW1⟩ : ∃ W, W = w.alloc (.cells #[.int .i64 k, .int .i64 n, .string s, .slice ao a.length cap] 67) := ⟨_, rfl⟩
    have hz1 : W1.heap.size = w.heap.size + 1 := by rw [hW1]; simp
    rw [show boxX w k n s ao a.length cap = W1 from hW1.symm] at c0 c1 c2 c3 HK HB
    have HW1 := hide hW1
    have HZ1 := hide hz1
    clear hW1 hz1
    go_enter Tryz.func46, Tryz.ntmps46
    go_upto_region 1 with (fail)
    rw [← HW1.out]
    clear HW1
    go_upto_region 2 with (fail)
    obtain ⟨W2, hW2⟩ : ∃ W, W = W1.alloc (.cells #[.string ⟨#[]⟩, .string ⟨#[105, 116]⟩, .string ⟨#[108, 105, 110, 101]⟩, .string ⟨#[119, 111, 114, 100]⟩, .string ⟨#[116, 101, 120, 116]⟩, .string ⟨#[99, 97, 116]⟩, .string ⟨#[99, 117, 116]⟩, .string ⟨#[110, 117, 109]⟩, .string ⟨#[108, 101, 110]⟩, .string ⟨#[109, 97, 110, 121]⟩, .string ⟨#[97, 100, 100]⟩] 9) := ⟨_, rfl⟩
    have hbk : Bk W2 W1.heap.size [.string ⟨#[]⟩, .string ⟨#[105, 116]⟩, .string ⟨#[108, 105, 110, 101]⟩, .string ⟨#[119, 111, 114, 100]⟩, .string ⟨#[116, 101, 120, 116]⟩, .string ⟨#[99, 97, 116]⟩, .string ⟨#[99, 117, 116]⟩, .string ⟨#[110, 117, 109]⟩, .string ⟨#[108, 101, 110]⟩, .string ⟨#[109, 97, 110, 121]⟩, .string ⟨#[97, 100, 100]⟩] := by rw [hW2]; exact Bk.new rfl
    have hb2 : Below W1.heap.size W1 W2 := by rw [hW2]; exact (Below.refl _ _).alloc (Nat.le_refl _) _
    rw [← hW2]
    clear hW2
    replace c0 := cell_later hb2 c0
    replace c1 := cell_later hb2 c1
    replace c2 := cell_later hb2 c2
    replace c3 := cell_later hb2 c3
    replace HB := hide (HB.out.trans (hb2.mono HB.out.size))
    have HK2 := hide (HK.out.mono (E' := ExAt W2 d) (fun x q hq => hq.later hb2 (Nat.le_refl _)) hb2 (Nat.le_refl _))
    have HBK := hide hbk
    clear hbk hb2 HK
    go_cut [4] from 7 to 11 (fun sv wc => sv = .string (tx (nameK k)) ∧ wc = W2)
    case first =>
      have h10 : k = 1 ∨ k = 2 ∨ k = 3 ∨ k = 4 ∨ k = 5 ∨ k = 6 ∨ k = 7 ∨ k = 8 ∨ k = 9 ∨ k = 10 := by omega
      clear h1 h3 HN HS HSO HKL
      rcases h10 with rfl | rfl | rfl | rfl | rfl | rfl | rfl | rfl | rfl | rfl
      · have x := HBK.out.get (j := 1) rfl
        go_wp2
        go_meet
        exact ⟨rfl, rfl⟩
      · have x := HBK.out.get (j := 2) rfl
        go_wp2
        go_meet
        exact ⟨rfl, rfl⟩
      · have x := HBK.out.get (j := 3) rfl
        go_wp2
        go_meet
        exact ⟨rfl, rfl⟩
      · have x := HBK.out.get (j := 4) rfl
        go_wp2
        go_meet
        exact ⟨rfl, rfl⟩
      · have x := HBK.out.get (j := 5) rfl
        go_wp2
        go_meet
        exact ⟨rfl, rfl⟩
      · have x := HBK.out.get (j := 6) rfl
        go_wp2
        go_meet
        exact ⟨rfl, rfl⟩
      · have x := HBK.out.get (j := 7) rfl
        go_wp2
        go_meet
        exact ⟨rfl, rfl⟩
      · have x := HBK.out.get (j := 8) rfl
        go_wp2
        go_meet
        exact ⟨rfl, rfl⟩
      · have x := HBK.out.get (j := 9) rfl
        go_wp2
        go_meet
        exact ⟨rfl, rfl⟩
      · have x := HBK.out.get (j := 10) rfl
        go_wp2
        go_meet
        exact ⟨rfl, rfl⟩
    case rest =>
    obtain ⟨rfl, rfl⟩ := hcut
    clear HBK
    have hln : (tx (nameK k)).size ≤ 4 := by rw [tx_size]; exact nameK_len k
    have HX : Hid (RT = (nameK k ++ (numPart k n ++ txtPart k s)) ++ textXs a) := by show _ = _; rw [← HRT.out, textX]; simp
    have hsL : s.size ≤ 20 ∨ k ≠ 4 := by
      by_cases h4 : k = 4
      · left
        have h8 := HSO.out
        rw [h4, sOk_4, Bool.and_eq_true, decide_eq_true_eq] at h8
        exact h8.1
      · exact .inr h4
    have HSL := hide hsL
    clear hsL
    obtain ⟨nb, hnb⟩ : ∃ nb, decide (k = 3 ∨ k = 6 ∨ k = 7) = nb := ⟨_, rfl⟩
    have HNB := hide hnb
    go_upto_region 3 with (fail)
    go_cut [24] from 12 to 24 (fun bv wd => bv = .bool nb ∧ wd = wc)
    case first =>
      clear HN HS HSO HKL HX HSL
      by_cases hks : k = 3 ∨ k = 6 ∨ k = 7
      · obtain rfl : nb = true := by rw [← hnb]; exact decide_eq_true hks
        clear hnb
        rcases hks with rfl | rfl | rfl
        all_goals
          go_wp2
          go_meet
          exact ⟨rfl, rfl⟩
      · obtain rfl : nb = false := by rw [← hnb]; exact decide_eq_false hks
        have t3 : (k == 3) = false := by simp; omega
        have t6 : (k == 6) = false := by simp; omega
        have t7 : (k == 7) = false := by simp; omega
        clear hks hnb
        go_wp2
        go_meet
        exact ⟨rfl, rfl⟩
    case rest =>
    obtain ⟨rfl, hww⟩ := hcut
    subst hww
    clear hnb
    go_upto_if 24 with (fail)
    go_cut [4] from 25 to 30 (fun sv wd => sv = .string (tx (nameK k ++ numPart k n)) ∧ Hid (Below wc.heap.size wc wd))
    case first =>
      clear HN HS HSO HKL HX HSL
      cases nb with
      | true =>
        have hks : k = 3 ∨ k = 6 ∨ k = 7 := of_decide_eq_true HNB.out
        have HI := hide (Decimal_any n wc h3.1 h3.2)
        have hil : (tx (Lib.itoa n)).size ≤ 20 := by rw [tx_size]; exact itoa_len h3.1 h3.2
        have HP : Hid ((tx (nameK k) ++ ⟨#[32]⟩) ++ tx (Lib.itoa n) = tx (nameK k ++ numPart k n)) := by
          show _ = _
          rw [numPart, if_pos hks]
          apply tl_inj
          rw [tl, tl, tx_list]
          simp [tx, ByteArray.data_append]
        generalize tx (Lib.itoa n) = D at *
        generalize tx (nameK k) = N at *
        clear hks
        go_wp2_with fail
        refine HI.out.mono ?_
        rintro e wd ⟨rfl, bd⟩
        go_wp2
        go_meet
        exact ⟨by rw [HP.out], bd⟩
      | false =>
        have hks : ¬ (k = 3 ∨ k = 6 ∨ k = 7) := of_decide_eq_false HNB.out
        have HP : Hid (tx (nameK k) = tx (nameK k ++ numPart k n)) := by
          show _ = _
          rw [numPart, if_neg hks, List.append_nil]
        generalize tx (nameK k) = N at *
        clear hks
        go_wp2
        go_meet
        exact ⟨by rw [HP.out], Below.refl _ _⟩
    case rest =>
    obtain ⟨rfl, HBD⟩ := hcut
    obtain ⟨wd, rfl⟩ : ∃ wd, wd = wc := ⟨_, rfl⟩
    have bd := HBD.out
    replace c0 := cell_later bd c0
    replace c1 := cell_later bd c1
    replace c2 := cell_later bd c2
    replace c3 := cell_later bd c3
    replace HB := hide (HB.out.trans (bd.mono HB.out.size))
    have HK3 := hide (HK2.out.mono (E' := ExAt wd d) (fun x q hq => hq.later bd (Nat.le_refl _)) bd (Nat.le_refl _))
    clear bd HBD HK2 HNB
    have hnp : (tx (nameK k ++ numPart k n)).size ≤ 30 := by
      rw [tx_size, List.length_append]
      have e1 : (nameK k).length ≤ 4 := nameK_len k
      have e2 : (numPart k n).length ≤ 21 := by
        unfold numPart
        split
        · rw [List.length_cons]; have := itoa_len h3.1 h3.2; omega
        · simp
      omega
    obtain ⟨A0, hA0⟩ : ∃ A, A = nameK k ++ numPart k n := ⟨_, rfl⟩
    rw [← hA0] at hnp ⊢
    have HA0 := hide hA0
    clear hA0
    obtain ⟨fb, hfb⟩ : ∃ fb, (k == 4) = fb := ⟨_, rfl⟩
    go_upto_if 33 with (fail)
    have HFB := hide hfb
    clear hfb
    go_cut [4] from 34 to 39 (fun sv we => sv = .string (tx (A0 ++ txtPart k s)) ∧ Hid (Below wd.heap.size wd we))
    case first =>
      clear HN HS HSO HKL HX
      cases fb with
      | true =>
        have hks : k = 4 := by simpa using HFB.out
        have hs20 : s.size ≤ 20 := by have := HSL.out; omega
        have HI := hide (RefQuoted_any s wd (by omega))
        have hil : (tx (quoteL s.data.toList)).size ≤ 50 := by
          rw [tx_size]; have := quoteL_len s.data.toList; rw [tl_len] at this; omega
        have HP : Hid ((tx A0 ++ ⟨#[32]⟩) ++ tx (quoteL s.data.toList) = tx (A0 ++ txtPart k s)) := by
          show _ = _
          rw [txtPart, if_pos hks]
          apply tl_inj
          rw [tl, tl, tx_list]
          simp [tx, ByteArray.data_append]
        generalize tx (quoteL s.data.toList) = D at *
        generalize tx A0 = N at *
        clear hks
        go_wp2_with fail
        refine HI.out.mono ?_
        rintro e we ⟨rfl, rfl⟩
        go_wp2
        go_meet
        exact ⟨by rw [HP.out], Below.refl _ _⟩
      | false =>
        have hks : ¬ k = 4 := by simpa using HFB.out
        have HP : Hid (tx A0 = tx (A0 ++ txtPart k s)) := by
          show _ = _
          rw [txtPart, if_neg hks, List.append_nil]
        generalize tx A0 = N at *
        clear hks
        go_wp2
        go_meet
        exact ⟨by rw [HP.out], Below.refl _ _⟩
    case rest =>
    obtain ⟨rfl, HBE⟩ := hcut
    obtain ⟨we, rfl⟩ : ∃ we, we = wc := ⟨_, rfl⟩
    have be := HBE.out
    replace c0 := cell_later be c0
    replace c1 := cell_later be c1
    replace c2 := cell_later be c2
    replace c3 := cell_later be c3
    replace HB := hide (HB.out.trans (be.mono HB.out.size))
    have HK4 := hide (HK3.out.mono (E' := ExAt we d) (fun x q hq => hq.later be (Nat.le_refl _)) be (Nat.le_refl _))
    clear be HBE HK3 HSL hnp
    obtain ⟨A, hA⟩ : ∃ A, A = A0 ++ txtPart k s := ⟨_, rfl⟩
    have hXX : RT = A ++ textXs a := by rw [HX.out, hA, HA0.out]; simp
    rw [← hA]
    clear HX hA HA0
    have HX := hide hXX
    clear hXX
    have hLEN : Hid (∀ (j : Nat) x, a[j]? = some x → (tx (A ++ textXs (a.take j))).size ≤ 101000 ∧ (tx (textX x)).size ≤ 101000 ∧ x.nodes ≤ 1000) := fun j x hx => by
      have h1 := HL.out
      rw [HX.out, List.length_append, ← List.take_append_drop j a, textXs_app, List.length_append, drop_cons hx, textXs, List.length_cons, List.length_append] at h1
      have h2 := HND.out
      rw [ExprV.nodes] at h2
      have h3 := nodesL_mem (List.mem_of_getElem? hx)
      refine ⟨by rw [tx_size, List.length_append]; omega, by rw [tx_size]; omega, by omega⟩
    have hla : (tx A).size ≤ 101000 := by
      have h1 := HL.out
      rw [HX.out, List.length_append] at h1
      rw [tx_size]; omega
    go_upto_region 7 with (fail)
    go_wp2
    go_loopw [4, 5] (fun sv iv wr => ∃ j : Nat, j ≤ a.length ∧ iv = .int .i64 j ∧ sv = .string (tx (A ++ textXs (a.take j))) ∧ Hid (Below we.heap.size we wr)) (fun _ iv _ => a.length - (intOf iv).toNat)
    case atStart => exact ⟨0, by omega, rfl, by simp [textXs], Below.refl _ _⟩
    case round =>
      obtain ⟨j, hj, rfl, rfl, HBR⟩ := hrel
      have d3 := cell_later HBR.out c3
      by_cases hlt : j < a.length
      · obtain ⟨b, off, d', k', n', s', l', ao', cap', rfl, hbs, rfl, hx, hex, g0, g1, g2, g3⟩ := (HK4.out.mono (fun x q hq => hq.later HBR.out (Nat.le_refl _)) HBR.out (Nat.le_refl _)).kid hlt
        obtain ⟨t', ht⟩ := HKL.out _ (List.mem_of_getElem? hx)
        have hlen := hLEN.out j _ hx
        have hT := IH.out k' n' s' l' ao' cap' wr t' each hex ht hlen.2.2
        have HT := hide hT
        have hn1 : (tx (A ++ textXs (a.take j))).size ≤ 101000 := hlen.1
        have hn2 : (tx (textX (.mk k' n' s' l'))).size ≤ 101000 := hlen.2.1
        have HST : Hid ((tx (A ++ textXs (a.take j)) ++ ⟨#[32]⟩) ++ tx (textX (.mk k' n' s' l')) = tx (A ++ textXs (a.take (j + 1)))) := by
          show _ = _
          rw [textXs_succ hx]
          apply tl_inj
          rw [tl, tl, tx_list]
          simp [tx, ByteArray.data_append]
        generalize tx (A ++ textXs (a.take j)) = S0 at *
        generalize tx (textX (.mk k' n' s' l')) = S1 at *
        have f1 : (0 : Int) ≤ (j : Int) ∧ (j : Int) < (a.length : Int) := by omega
        obtain ⟨f1, f2⟩ := f1
        clear hx hex ht hlen hT
        go_wp2_with fail
        refine HT.out.mono ?_
        rintro e w2 ⟨rfl, b2⟩
        have HB2 := hide (HBR.out.trans (b2.mono HBR.out.size))
        clear b2 HT
        go_wp2
        go_roundw
        case rel => exact ⟨j + 1, by omega, by go_num, by rw [HST.out], HB2⟩
        case measure => (simp [intOf]; try omega)
      · have hj2 : j = a.length := by omega
        have HFIN : Hid (tx (A ++ textXs (a.take j)) = tx RT) := by show _ = _; rw [List.take_of_length_le (by omega), HX.out]
        have e1 : decide ((j : Int) < (a.length : Int)) = false := by simp; omega
        have HBF := hide (HB.out.trans (HBR.out.mono HB.out.size))
        go_wp2
        go_ret
        exact ⟨by rw [HFIN.out]; rfl, HBF.out⟩
end Go.Proofs.YtgeedjlbajmdkaaGreatDoor
