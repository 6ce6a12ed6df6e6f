/- Expressions: expr.Check and ref.ExprFault tell the same. -/
import Derived.Test.YtjkggijkccbcpaaDoorWords
import Derived.Test.YtjkggijkccbcpaaDoorExpr4
set_option linter.unusedSimpArgs false
set_option linter.unusedVariables false
/- The reference's words; lists of texts compared; few texts. -/
namespace Go.Proofs.YtjkggijkccbcpaaDoor
open Go.RowKit

def bytesOf (s : ByteArray) : List UInt8 := s.data.toList
theorem bytes_get {s : ByteArray} {k : Nat} (h : k < s.size) : (bytesOf s)[k]? = some s[k] := by
  have h2 : k < s.data.size := h
  show s.data.toList[k]? = _
  rw [Array.getElem?_toList, Array.getElem?_eq_getElem h2]; rfl
theorem bytes_take_succ {s : ByteArray} {k : Nat} (h : k < s.size) : (bytesOf s).take (k + 1) = (bytesOf s).take k ++ [s[k]] := by
  have h2 : k < (bytesOf s).length := by unfold bytesOf; rw [tl_len]; exact h
  rw [List.take_succ_eq_append_getElem h2]
  congr 2
theorem extract_one {s : ByteArray} {k : Nat} (h : k < s.size) : s.extract k (k + 1) = tx [s[k]] := by
  have h2 : k < s.data.toList.length := by rw [tl_len]; exact h
  have e : (s.extract k (k + 1)).data.toList = [s[k]] := by
    rw [Lib.extract_data, List.drop_eq_getElem_cons h2, Nat.add_sub_cancel_left]
    rfl
  rw [← tx_of (s.extract k (k + 1)), e]
theorem tx_app (a b : List UInt8) : tx a ++ tx b = tx (a ++ b) := by
  have e : (tx a ++ tx b).data.toList = a ++ b := by
    have h : (tx a ++ tx b).data = (tx a).data ++ (tx b).data := ByteArray.data_append
    rw [h, Array.toList_append, tx_list, tx_list]
  rw [← tx_of (tx a ++ tx b), e]
theorem tx_snoc {s : ByteArray} {wd : List UInt8} {k : Nat} (h : k < s.size) : tx wd ++ s.extract k (k + 1) = tx (wd ++ [s[k]]) := by
  rw [extract_one h, tx_app]
end Go.Proofs.YtjkggijkccbcpaaDoor
/- Expressions: ref.noEnd, ref.shaped; Check and ExprFault. -/
namespace Go.Proofs.YtjkggijkccbcpaaDoor
open Go.RowKit Go.ChangeShapes Go.WideShapes Go.ChangeAt

end Go.Proofs.YtjkggijkccbcpaaDoor
namespace Go.Proofs.YtjkggijkccbcpaaDoor
open Go.RowKit Go.ChangeShapes Go.WideShapes Go.ChangeAt

/-- what is wrong with it -/
def faultE (e : ExprV) (text each : Bool) : Int := if 30 < e.nodes ∨ 5 < e.deep then 2 else if shE e text each then 0 else 3
theorem faultE_nn (e : ExprV) (text each : Bool) : 0 ≤ faultE e text each := by unfold faultE; split; decide; split <;> decide
theorem szE_fault (e : ExprV) : (szE e 1 30).1 = true ↔ ¬ (30 < e.nodes ∨ 5 < e.deep) := by
  rw [(szE_iff e 1 30 (by decide)).1]
  constructor
  · rintro ⟨h1, h2⟩; omega
  · intro h; omega
set_option maxRecDepth 100000 in
set_option maxHeartbeats 1000000 in
theorem Check_any (d : Nat) (k n : Int) (s : ByteArray) (a : List ExprV) (ao : Option Addr) (cap : Nat) (w : World) (text each : Bool) (h : ExAt w d (.mk k n s a) (encX k n s ao a.length cap)) :
    Calls Tryd.prog 43 #[.agg #[.int .i64 k, .int .i64 n, .string s, .slice ao a.length cap], .bool text, .bool each] w fun e w' => e = .returned (errV (faultE (.mk k n s a) text each)) ∧ Below w.heap.size w w' := by
  obtain ⟨c0, c1, c2, c3⟩ := box_cells w k n s ao a.length cap
  have hb1 := box_below w k n s ao a.length cap
  have h1 := h.later hb1 (Nat.le_refl _)
  have hb2 : Below (boxX w k n s ao a.length cap).heap.size (boxX w k n s ao a.length cap) ((boxX w k n s ao a.length cap).alloc (.cells #[.int .i64 30] 3)) := (Below.refl _ _).alloc (Nat.le_refl _) _
  have hlt : w.heap.size < (boxX w k n s ao a.length cap).heap.size := by simp
  have e0 := cell_later hb2 c0
  have e1 := cell_later hb2 c1
  have e2 := cell_later hb2 c2
  have e3 := cell_later hb2 c3
  have HX := hide (size_any d k n s a ao cap _ _ 1 30 (boxX w k n s ao a.length cap).heap.size h1 hb2 (Nat.le_refl _) (Bk.new rfl) (by decide) (by decide) (by decide) (by decide))
  have hs1 : (boxX w k n s ao a.length cap).heap.size = w.heap.size + 1 := by simp
  rw [hs1] at HX
  have hsz := szE_fault (.mk k n s a)
  generalize szE (.mk k n s a) 1 30 = q at *
  obtain ⟨q1, q2⟩ := q
  have HSZ := hide hsz
  have H1 := hide h1
  have HB1 := hide hb1
  have HB2 := hide hb2
  have HC : Hid (∀ w' : World, Below (boxX w k n s ao a.length cap).heap.size (boxX w k n s ao a.length cap) w' → w'.cell? ⟨w.heap.size, 0, none⟩ = some (.int .i64 k) ∧ w'.cell? ⟨w.heap.size, 1, none⟩ = some (.int .i64 n) ∧ w'.cell? ⟨w.heap.size, 2, none⟩ = some (.string s) ∧ w'.cell? ⟨w.heap.size, 3, none⟩ = some (.slice ao a.length cap)) :=
    fun w' b => ⟨cell_later b c0, cell_later b c1, cell_later b c2, cell_later b c3⟩
  clear hsz h1 hb1 hb2 h c0 c1 c2 c3
  dsimp only at HX
  go_enter Tryd.func43, Tryd.ntmps43
  go_wp2_with fail
  refine HX.out.mono ?_
  rintro e w3 ⟨rfl, k3, _⟩
  have hb3 := HB2.out.trans (k3.below (B := (boxX w k n s ao a.length cap).heap.size) (fun q e => by omega) HB2.out.size)
  have hbt := HB1.out.trans (hb3.mono HB1.out.size)
  obtain ⟨g0, g1, g2, g3⟩ := HC.out w3 hb3
  clear HX k3 e0 e1 e2 e3
  cases q1
  · have hf : faultE (.mk k n s a) text each = 2 := by
      unfold faultE
      rcases Decidable.em (30 < (ExprV.mk k n s a).nodes ∨ 5 < (ExprV.mk k n s a).deep) with h | h
      · rw [if_pos h]
      · exact absurd (HSZ.out.2 h) (by simp)
    have HF := hide hf
    clear hf
    go_wp2
    go_ret
    exact ⟨by rw [HF.out]; rfl, hbt⟩
  · have hf : faultE (.mk k n s a) text each = if shE (.mk k n s a) text each then 0 else 3 := by
      unfold faultE
      rw [if_neg (HSZ.out.1 rfl)]
    have HW := hide (well_any d k n s a ao cap w3 text each (H1.out.later hb3 (Nat.le_refl _)))
    generalize shE (.mk k n s a) text each = r at *
    have HBT := hide hbt
    have HF := hide hf
    clear hf hb3 hbt HC HSZ
    go_wp2_with fail
    refine HW.out.mono ?_
    rintro e w4 ⟨rfl, b4⟩
    have hb4 := HBT.out.trans (b4.mono HBT.out.size)
    clear HW b4
    cases r
    · go_wp2
      go_ret
      exact ⟨by rw [HF.out]; rfl, hb4⟩
    · go_wp2
      go_ret
      exact ⟨by rw [HF.out]; rfl, hb4⟩
end Go.Proofs.YtjkggijkccbcpaaDoor
