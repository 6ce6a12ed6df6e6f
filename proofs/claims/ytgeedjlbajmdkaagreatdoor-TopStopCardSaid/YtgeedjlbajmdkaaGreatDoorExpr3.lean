/- Expressions: expr.size and ref.parts are walked. -/
import Derived.Test.YtgeedjlbajmdkaaGreatDoorExpr2
set_option linter.unusedSimpArgs false
set_option linter.unusedVariables false
namespace Go.Proofs.YtgeedjlbajmdkaaGreatDoor
open Go.RowKit Go.ChangeShapes Go.WideShapes Go.ChangeAt

set_option maxRecDepth 100000 in
set_option maxHeartbeats 2000000 in
theorem size_any : ∀ (d : Nat) (k n : Int) (s : ByteArray) (a : List ExprV) (ao : Option Addr) (cap : Nat) (w0 w : World) (deep left : Int) (lb : Nat), ExAt w0 d (.mk k n s a) (encX k n s ao a.length cap) →
    Below w0.heap.size w0 w → w0.heap.size ≤ lb → Bk w lb [.int .i64 left] → 0 ≤ left → left ≤ 30 → 0 ≤ deep → deep ≤ 6 →
    Calls Tryz.prog 114 #[.agg #[.int .i64 k, .int .i64 n, .string s, .slice ao a.length cap], .int .i64 deep, .pointer (some ⟨lb, 0, none⟩)] w fun e w' => e = .returned (.bool (szE (.mk k n s a) deep left).1) ∧ KeptBut (fun q => q = lb) w w' ∧ Bk w' lb [.int .i64 (szE (.mk k n s a) deep left).2]
  | 0, _, _, _, _, _, _, _, _, _, _, _, h, _, _, _, _, _, _, _ => h.elim
  | d + 1, k, n, s, a, ao, cap, w0, w, deep, left, lb, h, hb, hlb, hbk, hl0, hl30, hd0, hd6 => by
    have IH := hide (size_any d)
    obtain ⟨ao', cap', he, hk, hn, hs, ha, hkids⟩ := h
    obtain ⟨rfl, rfl⟩ : ao = ao' ∧ cap = cap' := by simp [encX] at he; exact ⟨he.1, he.2⟩
    clear he
    have HK := hide hkids
    have hlt := hbk.lt
    have l0 := hbk.get (j := 0) rfl
    have z0 := hbk.fz 0
    have hbkS := hbk.set (k := 0) (u := .int .i64 left) (.int .i64 (left - 1)) rfl
    have l1 : (w.setCell ⟨lb, 0, none⟩ (.int .i64 (left - 1))).cell? ⟨lb, 0, none⟩ = some (.int .i64 (left - 1)) := hbkS.get (j := 0) rfl
    have hsz : (w.setCell ⟨lb, 0, none⟩ (.int .i64 (left - 1))).heap.size = w.heap.size := by simp [World.setCell]
    obtain ⟨c0, c1, c2, c3⟩ := box_cells (w.setCell ⟨lb, 0, none⟩ (.int .i64 (left - 1))) k n s ao a.length cap
    rw [hsz] at c0 c1 c2 c3
    have hb1 := box_below (w.setCell ⟨lb, 0, none⟩ (.int .i64 (left - 1))) k n s ao a.length cap
    have HKS := hide (((KeptBut.refl (fun q => q = lb) w).setCell (p := ⟨lb, 0, none⟩) rfl (.int .i64 (left - 1))).trans (KeptBut.of_below hb1 (Nat.le_refl _)))
    have HB2 := hide (hbkS.later hb1)
    clear hkids hbk hbkS hsz hb1
    unfold maxLen at ha
    have wl : IntKind.i64.wrap (left - 1) = left - 1 := IntWalk.i64_in _ (by omega)
    by_cases h1 : 5 < deep
    · have hr : szE (.mk k n s a) deep left = (false, left - 1) := by unfold szE; rw [if_pos (.inl h1)]
      rw [hr]
      have e1 : decide (5 < deep) = true := by simpa using h1
      go_enter Tryz.func114, Tryz.ntmps114
      go_wp2
      go_ret
      exact ⟨rfl, HKS.out, HB2.out⟩
    · have e1 : decide (5 < deep) = false := by simpa using h1
      by_cases h2 : left - 1 < 0
      · have hr : szE (.mk k n s a) deep left = (false, left - 1) := by unfold szE; rw [if_pos (.inr h2)]
        rw [hr]
        have e2 : decide (left - 1 < 0) = true := by simpa using h2
        go_enter Tryz.func114, Tryz.ntmps114
        go_wp2
        go_ret
        exact ⟨rfl, HKS.out, HB2.out⟩
      · have hr : szE (.mk k n s a) deep left = szL a (deep + 1) (left - 1) := by unfold szE; rw [if_neg (by omega)]
        rw [hr]
        have e2 : decide (left - 1 < 0) = false := by simpa using h2
        have wd : IntKind.i64.wrap (deep + 1) = deep + 1 := IntWalk.i64_in _ (by omega)
        generalize hsz : szL a (deep + 1) (left - 1) = sz
        have HSZ := hide hsz
        clear hr hsz
        go_enter Tryz.func114, Tryz.ntmps114
        go_wp2
        go_loopw [25] (fun i wr => ∃ (j : Nat) (c : Int), j ≤ a.length ∧ i = .int .i64 j ∧ 0 ≤ c ∧ c ≤ 30 ∧ Hid (szL (a.drop j) (deep + 1) c = sz) ∧ KeptBut (fun q => q = lb) w wr ∧ Bk wr lb [.int .i64 c]) (fun i _ => a.length - (intOf i).toNat)
        case atStart => exact ⟨0, left - 1, by omega, rfl, by omega, by omega, HSZ.out, HKS.out, HB2.out⟩
        case round =>
          obtain ⟨j, c, hj, rfl, hc0, hc30, hacc, hkp, hbc⟩ := hrel
          by_cases hjl : j < a.length
          · have hbw : Below w0.heap.size w0 wr := hb.trans (hkp.below (fun q e => by omega) hb.size)
            obtain ⟨b, off, d', k', n', s', l', ao', cap', rfl, hbs, rfl, hx, hex, g0, g1, g2, g3⟩ := HK.out.kid hjl
            have g0 := cell_later hbw g0
            have g1 := cell_later hbw g1
            have g2 := cell_later hbw g2
            have g3 := cell_later hbw g3
            have hb2 := box_below wr k' n' s' ao' l'.length cap'
            have HX := hide (IH.out k' n' s' l' ao' cap' w0 (boxX wr k' n' s' ao' l'.length cap') (deep + 1) c lb hex (hbw.trans (hb2.mono hbw.size)) hlb (hbc.later hb2) hc0 hc30 (by omega) (by omega))
            have hle := szE_le (.mk k' n' s' l') (deep + 1) c hc0
            have hst : Hid (sz = if (szE (.mk k' n' s' l') (deep + 1) c).1 = true then szL (a.drop (j + 1)) (deep + 1) (szE (.mk k' n' s' l') (deep + 1) c).2 else (false, (szE (.mk k' n' s' l') (deep + 1) c).2)) := by
              show _ = _
              rw [← hacc.out, drop_cons hx, szL]
            have HKP := hide (hkp.trans (KeptBut.of_below hb2 (Nat.le_refl _)))
            generalize szE (.mk k' n' s' l') (deep + 1) c = q at *
            obtain ⟨q1, q2⟩ := q
            dsimp only at hle
            have HLE := hide hle
            have f1 : (0 : Int) ≤ (j : Int) ∧ (j : Int) < (a.length : Int) := by omega
            obtain ⟨f1, f2⟩ := f1
            clear hx hex hb2 hle hbc hkp hacc
            go_wp2_with fail
            refine HX.out.mono ?_
            rintro e w2 ⟨rfl, k2, bk2⟩
            have HK2 := hide (HKP.out.trans k2)
            have HBK := hide bk2
            clear HX k2 bk2
            cases q1
            · go_wp2
              go_ret
              exact ⟨ret_b (by rw [hst.out]; rfl), HK2.out, by rw [hst.out]; exact HBK.out⟩
            · go_wp2
              go_roundw
              case rel => exact ⟨j + 1, q2, by omega, by go_num, HLE.out.2.2 (by first | trivial | rfl), by have := HLE.out.1; omega, by rw [hst.out]; rfl, HK2.out, HBK.out⟩
              case measure => (simp [intOf]; try omega)
          · have hr : sz = (true, c) := by rw [← hacc.out, List.drop_eq_nil_of_le (by omega)]; simp [szL]
            have HR := hide hr
            have HKP := hide hkp
            have HBC := hide hbc
            clear hr hkp hbc
            go_wp2
            go_ret
            exact ⟨ret_b (by rw [HR.out]), HKP.out, by rw [HR.out]; exact HBC.out⟩
mutual
theorem deepE_le : ∀ e : ExprV, e.deep ≤ e.nodes
  | .mk k n s a => by have := deepL_le a; unfold ExprV.deep ExprV.nodes; omega
theorem deepL_le : ∀ l : List ExprV, ExprV.deepL l ≤ ExprV.nodesL l
  | [] => by simp [ExprV.deepL, ExprV.nodesL]
  | x :: l => by
    have := deepL_le l
    have := deepE_le x
    unfold ExprV.deepL ExprV.nodesL; omega
end
theorem nodes_pos (e : ExprV) : 1 ≤ e.nodes := by cases e; unfold ExprV.nodes; omega
theorem nodesL_drop : ∀ (l : List ExprV) (j : Nat), ExprV.nodesL (l.drop j) ≤ ExprV.nodesL l
  | [], j => by simp
  | x :: l, 0 => by simp
  | x :: l, j + 1 => by
    have := nodesL_drop l j
    rw [List.drop_succ_cons]
    conv => rhs; unfold ExprV.nodesL
    omega
set_option maxRecDepth 100000 in
set_option maxHeartbeats 2000000 in
theorem parts_any : ∀ (d : Nat) (k n : Int) (s : ByteArray) (a : List ExprV) (ao : Option Addr) (cap : Nat) (w : World), ExAt w d (.mk k n s a) (encX k n s ao a.length cap) → (ExprV.mk k n s a).nodes ≤ 2000000 →
    Calls Tryz.prog 81 #[.agg #[.int .i64 k, .int .i64 n, .string s, .slice ao a.length cap]] w fun e w' => e = .returned (.tuple #[.int .i64 ((ExprV.mk k n s a).nodes : Nat), .int .i64 ((ExprV.mk k n s a).deep : Nat)]) ∧ Below w.heap.size w w'
  | 0, _, _, _, _, _, _, _, h, _ => h.elim
  | d + 1, k, n, s, a, ao, cap, w, h, hsm => by
    have IH := hide (parts_any d)
    obtain ⟨ao', cap', he, hk, hn, hs, ha, hkids⟩ := h
    obtain ⟨rfl, rfl⟩ : ao = ao' ∧ cap = cap' := by simp [encX] at he; exact ⟨he.1, he.2⟩
    clear he
    have hk2 := hkids.mono (E' := ExAt (boxX w k n s ao a.length cap) d) (fun x q hq => hq.later (box_below w k n s ao a.length cap) (Nat.le_refl _)) (box_below w k n s ao a.length cap) (Nat.le_refl _)
    obtain ⟨c0, c1, c2, c3⟩ := box_cells w k n s ao a.length cap
    have hb1 := box_below w k n s ao a.length cap
    have e1 : ((ExprV.mk k n s a).nodes : Int) = 1 + (ExprV.nodesL a : Nat) := by unfold ExprV.nodes; push_cast; rfl
    have e2 : ((ExprV.mk k n s a).deep : Int) = (ExprV.deepL a : Nat) + 1 := by unfold ExprV.deep; push_cast; rfl
    rw [e1, e2]
    have hsm' : ExprV.nodesL a ≤ 2000000 := by unfold ExprV.nodes at hsm; omega
    have hdl := deepL_le a
    generalize hN : ExprV.nodesL a = N at *
    generalize hD : ExprV.deepL a = D at *
    have HN := hide hN
    have HD := hide hD
    clear hkids e1 e2 hN hD hsm
    unfold maxLen at ha
    go_enter Tryz.func81, Tryz.ntmps81
    go_wp2
    go_loopw [4, 5, 6] (fun nv dv i wr => ∃ (j c m : Nat), j ≤ a.length ∧ i = .int .i64 j ∧ nv = .int .i64 c ∧ dv = .int .i64 m ∧ 1 ≤ c ∧ m ≤ D ∧ c + ExprV.nodesL (a.drop j) = 1 + N ∧ Hid (max m (ExprV.deepL (a.drop j)) = D) ∧ Below (boxX w k n s ao a.length cap).heap.size (boxX w k n s ao a.length cap) wr) (fun _ _ i _ => a.length - (intOf i).toNat)
    case atStart => exact ⟨0, 1, 0, by omega, rfl, rfl, rfl, by omega, by omega, by rw [List.drop_zero, HN.out], by show _ = _; rw [List.drop_zero, HD.out]; omega, Below.refl _ _⟩
    case round =>
      obtain ⟨j, c, m, hj, rfl, rfl, rfl, hc1, hmD, hcN, hacc, hbw⟩ := hrel
      have d3 := cell_later hbw c3
      have hbt := hb1.trans (hbw.mono hb1.size)
      by_cases hlt : j < a.length
      · obtain ⟨b, off, d', k', n', s', l', ao', cap', rfl, hbs, rfl, hx, hex, g0, g1, g2, g3⟩ := (hk2.mono (E' := ExAt wr d) (fun x q hq => hq.later hbw (Nat.le_refl _)) hbw (Nat.le_refl _)).kid hlt
        have hnn : c + (ExprV.mk k' n' s' l').nodes + ExprV.nodesL (a.drop (j + 1)) = 1 + N := by
          rw [drop_cons hx, ExprV.nodesL] at hcN; omega
        have hdd : max m (max (ExprV.mk k' n' s' l').deep (ExprV.deepL (a.drop (j + 1)))) = D := by
          have := hacc.out; rw [drop_cons hx, ExprV.deepL] at this; exact this
        have HX := hide (IH.out k' n' s' l' ao' cap' wr hex (by omega))
        generalize (ExprV.mk k' n' s' l').nodes = q at *
        generalize (ExprV.mk k' n' s' l').deep = r at *
        have HNN := hide hnn
        have HDD := hide hdd
        have hq : c + q ≤ 2000001 := by omega
        clear hx hex hnn hdd hcN hacc
        go_wp2_with fail
        refine HX.out.mono ?_
        rintro e w2 ⟨rfl, b2⟩
        clear HX
        go_wp2
        go_roundw
        case rel =>
          have h1 := HNN.out
          have h2 := HDD.out
          exact ⟨j + 1, c + q, max m r, by omega, by go_num, congrArg (Value.int .i64) (by push_cast; rfl), congrArg (Value.int .i64) (by omega), by omega, by omega, by omega, by show _ = _; omega, hbw.trans (b2.mono hbw.size)⟩
        case measure => (simp [intOf]; try omega)
      · have hr : (c : Int) = 1 + N ∧ (m : Int) = D := by
          have h2 := hacc.out
          rw [List.drop_eq_nil_of_le (by omega)] at hcN h2
          simp [ExprV.nodesL, ExprV.deepL] at hcN h2
          omega
        have HR := hide hr
        clear hr
        go_wp2
        go_ret2
        refine ⟨?_, hbt⟩
        show Ending.returned (.tuple #[.int .i64 (c : Int), .int .i64 ((m : Int) + 1)]) = _
        rw [HR.out.1, HR.out.2]
end Go.Proofs.YtgeedjlbajmdkaaGreatDoor
