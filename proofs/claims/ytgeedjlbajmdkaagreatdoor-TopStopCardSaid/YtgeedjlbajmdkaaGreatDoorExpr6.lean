/- Expressions: expr.Check and ref.ExprFault tell the same. -/
import Derived.Test.YtgeedjlbajmdkaaGreatDoorExpr5
set_option linter.unusedSimpArgs false
set_option linter.unusedVariables false
namespace Go.Proofs.YtgeedjlbajmdkaaGreatDoor
open Go.RowKit Go.ChangeShapes Go.WideShapes Go.ChangeAt

/-- what is wrong with it -/
def faultE (e : ExprV) (text each : Bool) : Int := if 30 < e.nodes ∨ 5 < e.deep then 2 else if shE e text each then 0 else 3
theorem faultE_nn (e : ExprV) (text each : Bool) : 0 ≤ faultE e text each := by unfold faultE; split; decide; split <;> decide
theorem szE_fault (e : ExprV) : (szE e 1 30).1 = true ↔ ¬ (30 < e.nodes ∨ 5 < e.deep) := by
  rw [(szE_iff e 1 30 (by decide)).1]
  constructor
  · rintro ⟨h1, h2⟩; omega
  · intro h; omega
set_option maxRecDepth 100000 in
set_option maxHeartbeats 1000000 in
theorem Check_any (d : Nat) (k n : Int) (s : ByteArray) (a : List ExprV) (ao : Option Addr) (cap : Nat) (w : World) (text each : Bool) (h : ExAt w d (.mk k n s a) (encX k n s ao a.length cap)) :
    Calls Tryz.prog 84 #[.agg #[.int .i64 k, .int .i64 n, .string s, .slice ao a.length cap], .bool text, .bool each] w fun e w' => e = .returned (errV (faultE (.mk k n s a) text each)) ∧ Below w.heap.size w w' := by
  obtain ⟨c0, c1, c2, c3⟩ := box_cells w k n s ao a.length cap
  have hb1 := box_below w k n s ao a.length cap
  have h1 := h.later hb1 (Nat.le_refl _)
  have hb2 : Below (boxX w k n s ao a.length cap).heap.size (boxX w k n s ao a.length cap) ((boxX w k n s ao a.length cap).alloc (.cells #[.int .i64 30] 3)) := (Below.refl _ _).alloc (Nat.le_refl _) _
  have hlt : w.heap.size < (boxX w k n s ao a.length cap).heap.size := by simp
  have e0 := cell_later hb2 c0
  have e1 := cell_later hb2 c1
  have e2 := cell_later hb2 c2
  have e3 := cell_later hb2 c3
  have HX := hide (size_any d k n s a ao cap _ _ 1 30 (boxX w k n s ao a.length cap).heap.size h1 hb2 (Nat.le_refl _) (Bk.new rfl) (by decide) (by decide) (by decide) (by decide))
  have hs1 : (boxX w k n s ao a.length cap).heap.size = w.heap.size + 1 := by simp
  rw [hs1] at HX
  have hsz := szE_fault (.mk k n s a)
  generalize szE (.mk k n s a) 1 30 = q at *
  obtain ⟨q1, q2⟩ := q
  have HSZ := hide hsz
  have H1 := hide h1
  have HB1 := hide hb1
  have HB2 := hide hb2
  have HC : Hid (∀ w' : World, Below (boxX w k n s ao a.length cap).heap.size (boxX w k n s ao a.length cap) w' → w'.cell? ⟨w.heap.size, 0, none⟩ = some (.int .i64 k) ∧ w'.cell? ⟨w.heap.size, 1, none⟩ = some (.int .i64 n) ∧ w'.cell? ⟨w.heap.size, 2, none⟩ = some (.string s) ∧ w'.cell? ⟨w.heap.size, 3, none⟩ = some (.slice ao a.length cap)) :=
    fun w' b => ⟨cell_later b c0, cell_later b c1, cell_later b c2, cell_later b c3⟩
  clear hsz h1 hb1 hb2 h c0 c1 c2 c3
  dsimp only at HX
  go_enter Tryz.func84, Tryz.ntmps84
  go_wp2_with fail
  refine HX.out.mono ?_
  rintro e w3 ⟨rfl, k3, _⟩
  have hb3 := HB2.out.trans (k3.below (B := (boxX w k n s ao a.length cap).heap.size) (fun q e => by omega) HB2.out.size)
  have hbt := HB1.out.trans (hb3.mono HB1.out.size)
  obtain ⟨g0, g1, g2, g3⟩ := HC.out w3 hb3
  clear HX k3 e0 e1 e2 e3
  cases q1
  · have hf : faultE (.mk k n s a) text each = 2 := by
      unfold faultE
      rcases Decidable.em (30 < (ExprV.mk k n s a).nodes ∨ 5 < (ExprV.mk k n s a).deep) with h | h
      · rw [if_pos h]
      · exact absurd (HSZ.out.2 h) (by simp)
    have HF := hide hf
    clear hf
    go_wp2
    go_ret
    exact ⟨by rw [HF.out]; rfl, hbt⟩
  · have hf : faultE (.mk k n s a) text each = if shE (.mk k n s a) text each then 0 else 3 := by
      unfold faultE
      rw [if_neg (HSZ.out.1 rfl)]
    have HW := hide (well_any d k n s a ao cap w3 text each (H1.out.later hb3 (Nat.le_refl _)))
    generalize shE (.mk k n s a) text each = r at *
    have HBT := hide hbt
    have HF := hide hf
    clear hf hb3 hbt HC HSZ
    go_wp2_with fail
    refine HW.out.mono ?_
    rintro e w4 ⟨rfl, b4⟩
    have hb4 := HBT.out.trans (b4.mono HBT.out.size)
    clear HW b4
    cases r
    · go_wp2
      go_ret
      exact ⟨by rw [HF.out]; rfl, hb4⟩
    · go_wp2
      go_ret
      exact ⟨by rw [HF.out]; rfl, hb4⟩
set_option maxRecDepth 100000 in
set_option maxHeartbeats 1000000 in
theorem ExprFault_any (d : Nat) (k n : Int) (s : ByteArray) (a : List ExprV) (ao : Option Addr) (cap : Nat) (w : World) (text each : Bool) (h : ExAt w d (.mk k n s a) (encX k n s ao a.length cap)) (hsm : (ExprV.mk k n s a).nodes ≤ 2000000) :
    Calls Tryz.prog 39 #[.agg #[.int .i64 k, .int .i64 n, .string s, .slice ao a.length cap], .bool text, .bool each] w fun e w' => e = .returned (.int .i64 (faultE (.mk k n s a) text each)) ∧ Below w.heap.size w w' := by
  obtain ⟨c0, c1, c2, c3⟩ := box_cells w k n s ao a.length cap
  have hb1 := box_below w k n s ao a.length cap
  have h1 := h.later hb1 (Nat.le_refl _)
  have HX := hide (parts_any d k n s a ao cap _ h1 hsm)
  have hdl := deepE_le (.mk k n s a)
  have HF : Hid (faultE (.mk k n s a) text each = if 30 < (ExprV.mk k n s a).nodes ∨ 5 < (ExprV.mk k n s a).deep then 2 else if shE (.mk k n s a) text each then 0 else 3) := rfl
  have H1 := hide h1
  have HB1 := hide hb1
  generalize (ExprV.mk k n s a).nodes = p at *
  generalize (ExprV.mk k n s a).deep = q at *
  have HC : Hid (∀ w' : World, Below (boxX w k n s ao a.length cap).heap.size (boxX w k n s ao a.length cap) w' → w'.cell? ⟨w.heap.size, 0, none⟩ = some (.int .i64 k) ∧ w'.cell? ⟨w.heap.size, 1, none⟩ = some (.int .i64 n) ∧ w'.cell? ⟨w.heap.size, 2, none⟩ = some (.string s) ∧ w'.cell? ⟨w.heap.size, 3, none⟩ = some (.slice ao a.length cap)) :=
    fun w' b => ⟨cell_later b c0, cell_later b c1, cell_later b c2, cell_later b c3⟩
  clear h1 hb1 h
  generalize hfv : faultE (.mk k n s a) text each = fv at *
  clear hfv
  go_enter Tryz.func39, Tryz.ntmps39
  go_wp2_with fail
  refine HX.out.mono ?_
  rintro e w3 ⟨rfl, b3⟩
  obtain ⟨g0, g1, g2, g3⟩ := HC.out w3 b3
  have HBT := hide (HB1.out.trans (b3.mono HB1.out.size))
  have HW := hide (shaped_any d k n s a ao cap w3 text each (H1.out.later b3 (Nat.le_refl _)))
  clear HX b3 c0 c1 c2 c3 HC
  by_cases hp : 30 < p
  · have e1 : decide ((30 : Int) < (p : Int)) = true := by simp; omega
    go_wp2
    go_ret
    exact ⟨ret_i (by rw [HF.out, if_pos (.inl hp)]), HBT.out⟩
  · have e1 : decide ((30 : Int) < (p : Int)) = false := by simp; omega
    by_cases hq : 5 < q
    · have e2 : decide ((5 : Int) < (q : Int)) = true := by simp; omega
      go_wp2
      go_ret
      exact ⟨ret_i (by rw [HF.out, if_pos (.inr hq)]), HBT.out⟩
    · have e2 : decide ((5 : Int) < (q : Int)) = false := by simp; omega
      have HF2 : Hid (fv = if shE (.mk k n s a) text each then 0 else 3) := by show _ = _; rw [HF.out, if_neg (by omega)]
      generalize shE (.mk k n s a) text each = r at *
      clear HF
      go_wp2_with fail
      refine HW.out.mono ?_
      rintro e w4 ⟨rfl, b4⟩
      have hb4 := HBT.out.trans (b4.mono HBT.out.size)
      clear HW b4
      cases r
      · go_wp2
        go_ret
        exact ⟨ret_i (by rw [HF2.out]; rfl), hb4⟩
      · go_wp2
        go_ret
        exact ⟨ret_i (by rw [HF2.out]; rfl), hb4⟩
end Go.Proofs.YtgeedjlbajmdkaaGreatDoor
