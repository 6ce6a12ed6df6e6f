/- The text of an expression: job.text. -/
import Derived.Test.YtgeedjlbajmdkaaGreatDoorJText
set_option linter.unusedSimpArgs false
set_option linter.unusedVariables false
namespace Go.Proofs.YtgeedjlbajmdkaaGreatDoor
open Go.RowKit

theorem nameK_len (k : Int) : (nameK k).length ≤ 4 := by
  unfold nameK
  (repeat' split) <;> simp only [List.length_cons, List.length_nil] <;> omega
theorem textXs_app : ∀ (l m : List ExprV), textXs (l ++ m) = textXs l ++ textXs m
  | [], m => by simp [textXs]
  | x :: l, m => by rw [List.cons_append, textXs, textXs, textXs_app l m]; simp
theorem textXs_succ {a : List ExprV} {j : Nat} {x : ExprV} (h : a[j]? = some x) : textXs (a.take (j + 1)) = textXs (a.take j) ++ 32 :: textX x := by
  obtain ⟨hlt, hx⟩ := List.getElem?_eq_some_iff.1 h
  rw [List.take_succ_eq_append_getElem hlt, hx, textXs_app]
  simp [textXs]
theorem nodesL_mem : ∀ {l : List ExprV} {x : ExprV}, x ∈ l → x.nodes ≤ ExprV.nodesL l
  | [], _, h => by cases h
  | y :: l, x, h => by
    rw [ExprV.nodesL]
    rcases List.mem_cons.1 h with rfl | h
    · omega
    · have := nodesL_mem h; omega
mutual
theorem textX_len : ∀ (e : ExprV) (text each : Bool), shE e text each = true → (textX e).length + 1 ≤ 101 * e.nodes
  | .mk k n s a, text, each, h => by
    obtain ⟨h1, h2, h3, h4, h5, h6⟩ := shE_own h
    obtain ⟨_, _, h8, _, h7, h9⟩ := shE_parts h
    have hk := textXs_len a (kidsOf k) each h9 h7
    rw [textX, ExprV.nodes]
    simp only [List.length_append]
    have e1 : (nameK k).length ≤ 4 := nameK_len k
    have e2 : (numPart k n).length ≤ 21 := by
      unfold numPart
      split
      · have := itoa_len h3.1 h3.2; simp only [List.length_cons]; omega
      · simp
    have e3 : (txtPart k s).length ≤ 50 := by
      unfold txtPart
      split
      · rename_i hk4
        subst hk4
        rw [sOk_4, Bool.and_eq_true, decide_eq_true_eq] at h8
        have := escB_len s.data.toList
        rw [tl_len] at this
        simp only [quoteL, List.length_cons, List.length_append, List.length_nil]
        omega
      · simp
    omega
theorem textXs_len : ∀ (l : List ExprV) (ts : List Bool) (each : Bool), shL l ts each = true → l.length = ts.length → (textXs l).length ≤ 101 * ExprV.nodesL l
  | [], _, _, _, _ => by simp [textXs]
  | x :: l, [], _, _, hl => by simp at hl
  | x :: l, t :: ts, each, h, hl => by
    rw [shL, Bool.and_eq_true] at h
    have h1 := textX_len x t each h.1
    have h2 := textXs_len l ts each h.2 (by simpa using hl)
    have h3 := nodes_pos x
    rw [textXs, ExprV.nodesL, List.length_cons, List.length_append]
    omega
end
set_option maxRecDepth 100000 in
set_option maxHeartbeats 1000000 in
theorem text_any (d : Nat) : ∀ (k n : Int) (s : ByteArray) (a : List ExprV) (ao : Option Addr) (cap : Nat) (w : World) (text each : Bool), GT w → ExAt w d (.mk k n s a) (encX k n s ao a.length cap) → shE (.mk k n s a) text each = true → (ExprV.mk k n s a).nodes ≤ 1000 →
    Calls Tryz.prog 43 #[.agg #[.int .i64 k, .int .i64 n, .string s, .slice ao a.length cap]] w fun e w' => e = .returned (.string (tx (textX (.mk k n s a)))) ∧ Below w.heap.size w w' := by
  induction d with
  | zero => intro _ _ _ _ _ _ _ _ _ _ h; exact h.elim
  | succ d ih =>
    intro k n s a ao cap w text each hg h hsh hnd
    obtain ⟨h1, h2, h3, h4, h5, h6⟩ := shE_own hsh
    obtain ⟨RT, hRT⟩ : ∃ RT, textX (.mk k n s a) = RT := ⟨_, rfl⟩
    have HL : Hid (RT.length ≤ 101000) := by have h7 := textX_len _ _ _ hsh; rw [hRT] at h7; show _ ≤ _; omega
    rw [hRT]
    have HRT := hide hRT
    clear hRT
    obtain ⟨_, _, h8, _, h7, h9⟩ := shE_parts hsh
    have HN := hide h2
    have HS := hide h4
    have HSO := hide h8
    have HKL := hide (shL_mem h9 h7)
    have HND := hide hnd
    have IH := hide ih
    obtain ⟨ao', cap', he, hk, hn, hs, ha, hkids⟩ := h
    obtain ⟨rfl, rfl⟩ : ao = ao' ∧ cap = cap' := by simp [encX] at he; exact ⟨he.1, he.2⟩
    clear he ih h2 h4 h5 h6 h7 h8 h9 hsh hnd
    have hb1 := box_below w k n s ao a.length cap
    obtain ⟨c0, c1, c2, c3⟩ := box_cells w k n s ao a.length cap
    have HK := hide (hkids.mono (E' := ExAt (boxX w k n s ao a.length cap) d) (fun x q hq => hq.later hb1 (Nat.le_refl _)) hb1 (Nat.le_refl _))
    have HG := hide (hg.later hb1 (Nat.le_refl _))
    have HB := hide hb1
    clear hkids hg hb1
    unfold maxLen at hs ha
    obtain ⟨W1, hW1⟩ : ∃ W, W = w.alloc (.cells #[.int .i64 k, .int .i64 n, .string s, .slice ao a.length cap] 67) := ⟨_, rfl⟩
    have hz1 : W1.heap.size = w.heap.size + 1 := by rw [hW1]; simp
    rw [show boxX w k n s ao a.length cap = W1 from hW1.symm] at c0 c1 c2 c3 HK HG HB
    have HW1 := hide hW1
    have HZ1 := hide hz1
    clear hW1 hz1
    go_enter Tryz.func43, Tryz.ntmps43
    go_upto_region 1 with (fail)
    rw [← HW1.out]
    clear HW1
    go_cut [3] from 6 to 9 (fun sv wc => sv = .string (tx (nameK k)) ∧ Hid (Below W1.heap.size W1 wc))
    case first =>
      refine wp_region_noPanic ?_
      refine wp_region_heldE_drew (S := (fun w' => Below W1.heap.size W1 w')) (E := [3, 4]) (by kernel_rfl) ?_ (fun hHeld => ?_)
      · (first | exact (Below.refl _ _).drew | exact hHeld.trans (b2.mono hHeld.size) | exact hHeld)
      try dsimp only [List.size_toArray, List.length_cons, List.length_nil, Nat.reduceAdd]
      refine wpAnyHE_takeP (i := 1) (oi := { dst := some 7, op := Op.fieldAddr 67 (Operand.tmp 1) 0, type := 0, pos := "job.go:70", after := #[], guard := none }) (v := ?_) rfl (by kernel_rfl) (by kernel_rfl) (by kernel_rfl) (fun _ _ _ h => h) (Or.inl ⟨by rfl, ?_⟩) ?_
      rotate_left
      · (intro w _; go_simp; try with_reducible rfl)
      try simp only [Act.put, List.setIfInBounds_toArray, List.set_cons_zero, List.set_cons_succ]
      refine wpAnyHE_take (i := 2) (oi := { dst := some 8, op := Op.load 3 (Operand.tmp 7), type := 3, pos := "job.go:70", after := #[{ on := 1, ground := Ground.data }], guard := none }) (v := ?_) [[2], [2]] rfl (by kernel_rfl) (by kernel_rfl) (by kernel_rfl) (by kernel_rfl) (by kernel_rfl) (fun _ _ _ h => h) (Or.inl ⟨by rfl, ?_⟩) (by assumption) ?_
      rotate_left
      · (intro w hSw; (try dsimp only at hSw); (have t0 := cell_later hSw c0); go_simp; try with_reducible rfl)
      try simp only [Act.put, List.setIfInBounds_toArray, List.set_cons_zero, List.set_cons_succ]
      refine wpAnyHE_ready (rs := [0]) (by kernel_rfl) (by simp) ?_
      refine AllReadyE.cons (o := { dst := some 6, op := Op.call { callee := Callee.value (Operand.func 86), args := #[], argTypes := #[] }, type := 132, pos := "job.go:70", after := #[], guard := none }) rfl (fun KH hKH => ?_) AllReadyE.nil
      go_simp
      (go_at_call 86; refine (names_any _).mono ?_; rintro e w2 ⟨rfl, ho2, b2⟩)
      try go_wp2_with fail
      refine hKH.out _ _ ?_ (fun hNew => ?_)
      · (first | exact (Below.refl _ _).drew | exact hHeld.trans (b2.mono hHeld.size) | exact hHeld)
      clear hKH KH hHeld
      have hHeld := hNew
      clear hNew
      try simp only [Act.put, List.setIfInBounds_toArray, List.set_cons_zero, List.set_cons_succ]
      refine wpAnyHE_ready (rs := [3]) (by kernel_rfl) (by simp) ?_
      refine AllReadyE.consE (o := { dst := some 9, op := Op.lookup 132 (Operand.tmp 6) (Operand.tmp 8) false, type := 9, pos := "job.go:70", after := #[{ on := 0, ground := Ground.data }, { on := 2, ground := Ground.data }], guard := none }) rfl (by kernel_rfl) (fun KH hKH => ?_) AllReadyE.nil
      have hl := names_look (b := W1.heap.size) ho2 h1
      have HBX := hide hHeld
      go_simp
      refine hKH.out _ _ ?_
      clear hKH KH
      try clear hHeld
      try simp only [Act.put, List.setIfInBounds_toArray, List.set_cons_zero, List.set_cons_succ]
      refine wpAnyHE_ready (rs := [4]) (by kernel_rfl) (by simp) ?_
      refine AllReadyE.consE (o := { dst := some 3, op := Op.assign (Operand.tmp 9), type := 9, pos := "job.go:70", after := #[{ on := 3, ground := Ground.data }, { on := 0, ground := Ground.chain }, { on := 0, ground := Ground.phase }, { on := 1, ground := Ground.phase }, { on := 2, ground := Ground.phase }, { on := 3, ground := Ground.phase }], guard := none }) rfl (by kernel_rfl) (fun KH hKH => ?_) AllReadyE.nil
      go_simp
      refine hKH.out _ _ ?_
      clear hKH KH
      try clear hHeld
      try simp only [Act.put, List.setIfInBounds_toArray, List.set_cons_zero, List.set_cons_succ]
      refine wpAnyHE_done (by kernel_rfl) ?_ _
      refine NoPanic.normal ?_
      go_wp2
      go_meet
      exact ⟨rfl, HBX⟩
    case rest =>
    obtain ⟨rfl, HBC⟩ := hcut
    have d0 := cell_later HBC.out c0
    have d1 := cell_later HBC.out c1
    have d2 := cell_later HBC.out c2
    clear c0 c1 c2
    have HGC := hide (HG.out.later HBC.out (Nat.le_refl _))
    have hln : (tx (nameK k)).size ≤ 4 := by rw [tx_size]; exact nameK_len k
    obtain ⟨A, hA⟩ : ∃ A, A = nameK k ++ (numPart k n ++ txtPart k s) := ⟨_, rfl⟩
    have HA := hide hA
    have HX : Hid (RT = A ++ textXs a) := by show _ = _; rw [← HRT.out, textX, hA]; simp
    clear hA
    have hLEN : Hid (∀ (j : Nat) x, a[j]? = some x → (tx (A ++ textXs (a.take j))).size ≤ 101000 ∧ (tx (textX x)).size ≤ 101000 ∧ x.nodes ≤ 1000) := fun j x hx => by
      have h1 := HL.out
      rw [HX.out, List.length_append, ← List.take_append_drop j a, textXs_app, List.length_append, drop_cons hx, textXs, List.length_cons, List.length_append] at h1
      have h2 := HND.out
      rw [ExprV.nodes] at h2
      have h3 := nodesL_mem (List.mem_of_getElem? hx)
      refine ⟨by rw [tx_size, List.length_append]; omega, by rw [tx_size]; omega, by omega⟩
    have hks : (k = 3 ∨ k = 6 ∨ k = 7) ∨ k = 4 ∨ (k ≠ 3 ∧ k ≠ 6 ∧ k ≠ 7 ∧ k ≠ 4) := by omega
    rcases hks with hks | rfl | ⟨e3, e6, e7, e4⟩
    · have HI := hide fun w' (hb : Below wc.heap.size wc w') => Itoa_any n w' (HGC.out.later hb (Nat.le_refl _)) h3.1 h3.2
      have hil : (tx (Lib.itoa n)).size ≤ 20 := by rw [tx_size]; exact itoa_len h3.1 h3.2
      have HP : Hid (tx (nameK k) ++ (⟨#[32]⟩ ++ tx (Lib.itoa n)) = tx A) := by
        show _ = _
        rw [HA.out, numPart, if_pos hks, txtPart, if_neg (by omega)]
        apply tl_inj
        rw [tl, tl, tx_list]
        simp [tx, ByteArray.data_append]
      generalize tx (Lib.itoa n) = D at *
      generalize tx (nameK k) = N at *
      have n1 : ¬ 9223372036854775807 < 1 + D.size := by omega
      have n2 : ¬ 9223372036854775807 < N.size + (1 + D.size) := by omega
      rcases hks with rfl | rfl | rfl
      all_goals
        go_wp2_with fail
        refine (HI.out _ (Below.refl _ _)).mono ?_
        rintro e wd ⟨rfl, bd⟩
        have HBD := hide (HBC.out.trans (bd.mono HBC.out.size))
        have q3 := cell_later HBD.out c3
        clear bd
        go_upto_region 9 with (fail)
        rw [HP.out]
        go_wp2
        go_loopw [3, 33] (fun sv iv wr => ∃ j : Nat, j ≤ a.length ∧ iv = .int .i64 j ∧ sv = .string (tx (A ++ textXs (a.take j))) ∧ Hid (Below W1.heap.size W1 wr)) (fun _ iv _ => a.length - (intOf iv).toNat)
        case atStart => exact ⟨0, by omega, rfl, by simp [textXs], HBD⟩
        case round =>
          obtain ⟨j, hj, rfl, rfl, HBR⟩ := hrel
          by_cases hlt : j < a.length
          · obtain ⟨b, off, d', k', n', s', l', ao', cap', rfl, hbs, rfl, hx, hex, g0, g1, g2, g3⟩ := (HK.out.mono (fun x q hq => hq.later HBR.out (Nat.le_refl _)) HBR.out (Nat.le_refl _)).kid hlt
            obtain ⟨t', ht⟩ := HKL.out _ (List.mem_of_getElem? hx)
            have hlen := hLEN.out j _ hx
            have hT := IH.out k' n' s' l' ao' cap' (wr.alloc (.cells #[.int .i64 k', .int .i64 n', .string s', .slice ao' l'.length cap'] 67)) t' each (HG.out.later (HBR.out.alloc HBR.out.size _) (Nat.le_refl _)) (hex.later ((Below.refl _ _).alloc (Nat.le_refl _) _) (Nat.le_refl _)) ht hlen.2.2
            have HT := hide hT
            have hn1 : (tx (A ++ textXs (a.take j))).size ≤ 101000 := hlen.1
            have hn2 : (tx (textX (.mk k' n' s' l'))).size ≤ 101000 := hlen.2.1
            have HST : Hid (tx (A ++ textXs (a.take j)) ++ (⟨#[32]⟩ ++ tx (textX (.mk k' n' s' l'))) = tx (A ++ textXs (a.take (j + 1)))) := by
              show _ = _
              rw [textXs_succ hx]
              apply tl_inj
              rw [tl, tl, tx_list]
              simp [tx, ByteArray.data_append]
            generalize tx (A ++ textXs (a.take j)) = S0 at *
            generalize tx (textX (.mk k' n' s' l')) = S1 at *
            have m1 : ¬ 9223372036854775807 < 1 + S1.size := by omega
            have m2 : ¬ 9223372036854775807 < S0.size + (1 + S1.size) := by omega
            have f1 : (0 : Int) ≤ (j : Int) ∧ (j : Int) < (a.length : Int) := by omega
            obtain ⟨f1, f2⟩ := f1
            clear hx hex ht hlen hT
            go_wp2_with fail
            refine HT.out.mono ?_
            rintro e w2 ⟨rfl, b2⟩
            have HB2 := hide ((HBR.out.alloc HBR.out.size (.cells #[.int .i64 k', .int .i64 n', .string s', .slice ao' l'.length cap'] 67)).trans (b2.mono (by have := HBR.out.size; simp; omega)))
            clear b2 HT
            go_wp2
            go_roundw
            case rel => exact ⟨j + 1, by omega, by go_num, by rw [HST.out], HB2⟩
            case measure => (simp [intOf]; try omega)
          · have hj2 : j = a.length := by omega
            have HFIN : Hid (tx (A ++ textXs (a.take j)) = tx RT) := by show _ = _; rw [List.take_of_length_le (by omega), HX.out]
            have e1 : decide ((j : Int) < (a.length : Int)) = false := by simp; omega
            have HBF := hide (HB.out.trans (HBR.out.mono (by have := HZ1.out; omega)))
            go_wp2
            go_ret
            exact ⟨by rw [HFIN.out]; rfl, HBF.out⟩
    · have hs4 := HS.out
      have hs20 : s.size ≤ 20 := by
        have h8 := HSO.out
        rw [sOk_4, Bool.and_eq_true, decide_eq_true_eq] at h8
        exact h8.1
      have HI := hide fun w' (hb : Below wc.heap.size wc w') => quote_any s w' (HGC.out.later hb (Nat.le_refl _)).gm (by omega)
      have hil : (tx (quoteL s.data.toList)).size ≤ 50 := by
        rw [tx_size]; have := escB_len s.data.toList; rw [tl_len] at this; simp only [quoteL, List.length_cons, List.length_append, List.length_nil]; omega
      have HP : Hid (tx (nameK 4) ++ (⟨#[32]⟩ ++ tx (quoteL s.data.toList)) = tx A) := by
        show _ = _
        rw [HA.out, numPart, if_neg (by omega), txtPart, if_pos rfl]
        apply tl_inj
        rw [tl, tl, tx_list]
        simp [tx, ByteArray.data_append]
      generalize tx (quoteL s.data.toList) = D at *
      generalize tx (nameK 4) = N at *
      have n1 : ¬ 9223372036854775807 < 1 + D.size := by omega
      have n2 : ¬ 9223372036854775807 < N.size + (1 + D.size) := by omega
      clear hs4
      go_wp2_with fail
      refine (HI.out _ (Below.refl _ _)).mono ?_
      rintro e wd ⟨rfl, bd⟩
      have HBD := hide (HBC.out.trans (bd.mono HBC.out.size))
      have q3 := cell_later HBD.out c3
      clear bd
      go_upto_region 9 with (fail)
      rw [HP.out]
      go_wp2
      go_loopw [3, 33] (fun sv iv wr => ∃ j : Nat, j ≤ a.length ∧ iv = .int .i64 j ∧ sv = .string (tx (A ++ textXs (a.take j))) ∧ Hid (Below W1.heap.size W1 wr)) (fun _ iv _ => a.length - (intOf iv).toNat)
      case atStart => exact ⟨0, by omega, rfl, by simp [textXs], HBD⟩
      case round =>
        obtain ⟨j, hj, rfl, rfl, HBR⟩ := hrel
        by_cases hlt : j < a.length
        · obtain ⟨b, off, d', k', n', s', l', ao', cap', rfl, hbs, rfl, hx, hex, g0, g1, g2, g3⟩ := (HK.out.mono (fun x q hq => hq.later HBR.out (Nat.le_refl _)) HBR.out (Nat.le_refl _)).kid hlt
          obtain ⟨t', ht⟩ := HKL.out _ (List.mem_of_getElem? hx)
          have hlen := hLEN.out j _ hx
          have hT := IH.out k' n' s' l' ao' cap' (wr.alloc (.cells #[.int .i64 k', .int .i64 n', .string s', .slice ao' l'.length cap'] 67)) t' each (HG.out.later (HBR.out.alloc HBR.out.size _) (Nat.le_refl _)) (hex.later ((Below.refl _ _).alloc (Nat.le_refl _) _) (Nat.le_refl _)) ht hlen.2.2
          have HT := hide hT
          have hn1 : (tx (A ++ textXs (a.take j))).size ≤ 101000 := hlen.1
          have hn2 : (tx (textX (.mk k' n' s' l'))).size ≤ 101000 := hlen.2.1
          have HST : Hid (tx (A ++ textXs (a.take j)) ++ (⟨#[32]⟩ ++ tx (textX (.mk k' n' s' l'))) = tx (A ++ textXs (a.take (j + 1)))) := by
            show _ = _
            rw [textXs_succ hx]
            apply tl_inj
            rw [tl, tl, tx_list]
            simp [tx, ByteArray.data_append]
          generalize tx (A ++ textXs (a.take j)) = S0 at *
          generalize tx (textX (.mk k' n' s' l')) = S1 at *
          have m1 : ¬ 9223372036854775807 < 1 + S1.size := by omega
          have m2 : ¬ 9223372036854775807 < S0.size + (1 + S1.size) := by omega
          have f1 : (0 : Int) ≤ (j : Int) ∧ (j : Int) < (a.length : Int) := by omega
          obtain ⟨f1, f2⟩ := f1
          clear hx hex ht hlen hT
          go_wp2_with fail
          refine HT.out.mono ?_
          rintro e w2 ⟨rfl, b2⟩
          have HB2 := hide ((HBR.out.alloc HBR.out.size (.cells #[.int .i64 k', .int .i64 n', .string s', .slice ao' l'.length cap'] 67)).trans (b2.mono (by have := HBR.out.size; simp; omega)))
          clear b2 HT
          go_wp2
          go_roundw
          case rel => exact ⟨j + 1, by omega, by go_num, by rw [HST.out], HB2⟩
          case measure => (simp [intOf]; try omega)
        · have hj2 : j = a.length := by omega
          have HFIN : Hid (tx (A ++ textXs (a.take j)) = tx RT) := by show _ = _; rw [List.take_of_length_le (by omega), HX.out]
          have e1 : decide ((j : Int) < (a.length : Int)) = false := by simp; omega
          have HBF := hide (HB.out.trans (HBR.out.mono (by have := HZ1.out; omega)))
          go_wp2
          go_ret
          exact ⟨by rw [HFIN.out]; rfl, HBF.out⟩
    · have HP : Hid (tx (nameK k) = tx A) := by
        show _ = _
        rw [HA.out, numPart, if_neg (by omega), txtPart, if_neg (by omega), List.append_nil, List.append_nil]
      generalize tx (nameK k) = N at *
      have t3 : (k == 3) = false := by simpa using e3
      have t6 : (k == 6) = false := by simpa using e6
      have t7 : (k == 7) = false := by simpa using e7
      have t4 : (k == 4) = false := by simpa using e4
      clear e3 e6 e7 e4
      have HBD := HBC
      have q3 := cell_later HBD.out c3
      obtain ⟨wd, rfl⟩ : ∃ wd, wd = wc := ⟨_, rfl⟩
      go_upto_region 9 with (fail)
      rw [HP.out]
      go_wp2
      go_loopw [3, 33] (fun sv iv wr => ∃ j : Nat, j ≤ a.length ∧ iv = .int .i64 j ∧ sv = .string (tx (A ++ textXs (a.take j))) ∧ Hid (Below W1.heap.size W1 wr)) (fun _ iv _ => a.length - (intOf iv).toNat)
      case atStart => exact ⟨0, by omega, rfl, by simp [textXs], HBD⟩
      case round =>
        obtain ⟨j, hj, rfl, rfl, HBR⟩ := hrel
        by_cases hlt : j < a.length
        · obtain ⟨b, off, d', k', n', s', l', ao', cap', rfl, hbs, rfl, hx, hex, g0, g1, g2, g3⟩ := (HK.out.mono (fun x q hq => hq.later HBR.out (Nat.le_refl _)) HBR.out (Nat.le_refl _)).kid hlt
          obtain ⟨t', ht⟩ := HKL.out _ (List.mem_of_getElem? hx)
          have hlen := hLEN.out j _ hx
          have hT := IH.out k' n' s' l' ao' cap' (wr.alloc (.cells #[.int .i64 k', .int .i64 n', .string s', .slice ao' l'.length cap'] 67)) t' each (HG.out.later (HBR.out.alloc HBR.out.size _) (Nat.le_refl _)) (hex.later ((Below.refl _ _).alloc (Nat.le_refl _) _) (Nat.le_refl _)) ht hlen.2.2
          have HT := hide hT
          have hn1 : (tx (A ++ textXs (a.take j))).size ≤ 101000 := hlen.1
          have hn2 : (tx (textX (.mk k' n' s' l'))).size ≤ 101000 := hlen.2.1
          have HST : Hid (tx (A ++ textXs (a.take j)) ++ (⟨#[32]⟩ ++ tx (textX (.mk k' n' s' l'))) = tx (A ++ textXs (a.take (j + 1)))) := by
            show _ = _
            rw [textXs_succ hx]
            apply tl_inj
            rw [tl, tl, tx_list]
            simp [tx, ByteArray.data_append]
          generalize tx (A ++ textXs (a.take j)) = S0 at *
          generalize tx (textX (.mk k' n' s' l')) = S1 at *
          have m1 : ¬ 9223372036854775807 < 1 + S1.size := by omega
          have m2 : ¬ 9223372036854775807 < S0.size + (1 + S1.size) := by omega
          have f1 : (0 : Int) ≤ (j : Int) ∧ (j : Int) < (a.length : Int) := by omega
          obtain ⟨f1, f2⟩ := f1
          clear hx hex ht hlen hT
          go_wp2_with fail
          refine HT.out.mono ?_
          rintro e w2 ⟨rfl, b2⟩
          have HB2 := hide ((HBR.out.alloc HBR.out.size (.cells #[.int .i64 k', .int .i64 n', .string s', .slice ao' l'.length cap'] 67)).trans (b2.mono (by have := HBR.out.size; simp; omega)))
          clear b2 HT
          go_wp2
          go_roundw
          case rel => exact ⟨j + 1, by omega, by go_num, by rw [HST.out], HB2⟩
          case measure => (simp [intOf]; try omega)
        · have hj2 : j = a.length := by omega
          have HFIN : Hid (tx (A ++ textXs (a.take j)) = tx RT) := by show _ = _; rw [List.take_of_length_le (by omega), HX.out]
          have e1 : decide ((j : Int) < (a.length : Int)) = false := by simp; omega
          have HBF := hide (HB.out.trans (HBR.out.mono (by have := HZ1.out; omega)))
          go_wp2
          go_ret
          exact ⟨by rw [HFIN.out]; rfl, HBF.out⟩
end Go.Proofs.YtgeedjlbajmdkaaGreatDoor
