/- Expressions: how heavy (law.weight), how many and how deep (expr.size, ref.parts). -/
import Derived.Test.YtjkggijkccbcpaaDoorExpr
set_option linter.unusedSimpArgs false
set_option linter.unusedVariables false
namespace Go.Proofs.YtjkggijkccbcpaaDoor
open Go.RowKit Go.ChangeShapes Go.WideShapes Go.ChangeAt

mutual
/-- law.weight at 400 -/
def wtE : ExprV → Int
  | .mk _ _ s a => wtL (wrap64 (1 + s.size)) a
def wtL : Int → List ExprV → Int
  | n, [] => n
  | n, x :: l => if n ≤ 400 then wtL (wrap64 (n + wtE x)) l else n
end
/-- a boxed expression -/
abbrev boxX (w : World) (k n : Int) (s : ByteArray) (ao : Option Addr) (len cap : Nat) : World := w.alloc (.cells #[.int .i64 k, .int .i64 n, .string s, .slice ao len cap] 59)
theorem box_cells (w : World) (k n : Int) (s : ByteArray) (ao : Option Addr) (len cap : Nat) :
    (boxX w k n s ao len cap).cell? ⟨w.heap.size, 0, none⟩ = some (.int .i64 k) ∧ (boxX w k n s ao len cap).cell? ⟨w.heap.size, 1, none⟩ = some (.int .i64 n) ∧ (boxX w k n s ao len cap).cell? ⟨w.heap.size, 2, none⟩ = some (.string s) ∧ (boxX w k n s ao len cap).cell? ⟨w.heap.size, 3, none⟩ = some (.slice ao len cap) :=
  have h := Bk.new (w := w) (cs := #[.int .i64 k, .int .i64 n, .string s, .slice ao len cap]) (t := 59) rfl
  ⟨h.get (j := 0) rfl, h.get (j := 1) rfl, h.get (j := 2) rfl, h.get (j := 3) rfl⟩
theorem box_below (w : World) (k n : Int) (s : ByteArray) (ao : Option Addr) (len cap : Nat) : Below w.heap.size w (boxX w k n s ao len cap) := (Below.refl _ _).alloc (Nat.le_refl _) _
theorem drop_cons {α : Type} {l : List α} {i : Nat} {x : α} (h : l[i]? = some x) : l.drop i = x :: l.drop (i + 1) := by
  obtain ⟨h1, h2⟩ := List.getElem?_eq_some_iff.1 h
  rw [← h2]; exact List.drop_eq_getElem_cons h1
set_option maxRecDepth 100000 in
set_option maxHeartbeats 1000000 in
theorem weight_any : ∀ (d : Nat) (k n : Int) (s : ByteArray) (a : List ExprV) (ao : Option Addr) (cap : Nat) (w : World), ExAt w d (.mk k n s a) (encX k n s ao a.length cap) →
    Calls Tryd.prog 41 #[.agg #[.int .i64 k, .int .i64 n, .string s, .slice ao a.length cap], .int .i64 400] w fun e w' => e = .returned (.int .i64 (wtE (.mk k n s a))) ∧ Below w.heap.size w w'
  | 0, _, _, _, _, _, _, _, h => h.elim
  | d + 1, k, n, s, a, ao, cap, w, h => by
    have IH := hide (weight_any d)
    obtain ⟨ao', cap', he, hk, hn, hs, ha, hkids⟩ := h
    obtain ⟨rfl, rfl⟩ : ao = ao' ∧ cap = cap' := by simp [encX] at he; exact ⟨he.1, he.2⟩
    clear he
    have hk2 := hkids.mono (E' := ExAt (boxX w k n s ao a.length cap) d) (fun x q hq => hq.later (box_below w k n s ao a.length cap) (Nat.le_refl _)) (box_below w k n s ao a.length cap) (Nat.le_refl _)
    obtain ⟨c0, c1, c2, c3⟩ := box_cells w k n s ao a.length cap
    have hb1 := box_below w k n s ao a.length cap
    have hws : wtE (.mk k n s a) = wtL (wrap64 (1 + s.size)) a := rfl
    rw [hws]
    generalize hn0 : wrap64 (1 + (s.size : Int)) = n0
    have HN := hide hn0
    clear hn0 hws hkids
    unfold maxLen at hs ha
    go_enter Tryd.func41, Tryd.ntmps41
    go_wp2
    go_loopw [5, 6] (fun nv i wr => ∃ (j : Nat) (c : Int), j ≤ a.length ∧ i = .int .i64 j ∧ nv = .int .i64 c ∧ Hid (wtL n0 a = wtL c (a.drop j)) ∧ Below (boxX w k n s ao a.length cap).heap.size (boxX w k n s ao a.length cap) wr) (fun _ i _ => a.length - (intOf i).toNat)
    case atStart => exact ⟨0, n0, by omega, rfl, by rw [← HN.out], rfl, Below.refl _ _⟩
    case round =>
      obtain ⟨j, c, hj, rfl, rfl, hacc, hbw⟩ := hrel
      have d3 := cell_later hbw c3
      have hbt := hb1.trans (hbw.mono hb1.size)
      by_cases hlt : j < a.length
      · by_cases hc : c ≤ 400
        · obtain ⟨b, off, d', k', n', s', l', ao', cap', rfl, hbs, rfl, hx, hex, g0, g1, g2, g3⟩ := (hk2.mono (E' := ExAt wr d) (fun x q hq => hq.later hbw (Nat.le_refl _)) hbw (Nat.le_refl _)).kid hlt
          have HX := hide (IH.out k' n' s' l' ao' cap' wr hex)
          have hst : Hid (wtL n0 a = wtL (wrap64 (c + wtE (.mk k' n' s' l'))) (a.drop (j + 1))) := by
            show _ = _
            rw [hacc.out, drop_cons hx, wtL, if_pos hc]
          have e1 : decide ((j : Int) < (a.length : Int)) = true := by simp; omega
          have e2 : decide (c ≤ 400) = true := by simpa using hc
          generalize wtE (.mk k' n' s' l') = q at *
          clear hx hex
          go_wp2_with fail
          refine HX.out.mono ?_
          rintro e w2 ⟨rfl, b2⟩
          clear HX
          go_wp2
          go_roundw
          case rel => exact ⟨j + 1, _, by omega, by go_num, rfl, hst, hbw.trans (b2.mono hbw.size)⟩
          case measure => (simp [intOf]; try omega)
        · have hr : wtL n0 a = c := by rw [hacc.out, drop_cons (List.getElem?_eq_getElem hlt), wtL, if_neg hc]
          have HR := hide hr
          clear hr
          have e1 : decide ((j : Int) < (a.length : Int)) = true := by simp; omega
          have e2 : decide (c ≤ 400) = false := by simpa using hc
          go_wp2
          go_ret
          exact ⟨ret_i HR.out, hbt⟩
      · have hr : wtL n0 a = c := by rw [hacc.out, List.drop_eq_nil_of_le (by omega)]; simp [wtL]
        have HR := hide hr
        clear hr
        have e1 : decide ((j : Int) < (a.length : Int)) = false := by simp; omega
        go_wp2
        go_ret
        exact ⟨ret_i HR.out, hbt⟩
theorem LightExpr_any (d : Nat) (k n : Int) (s : ByteArray) (a : List ExprV) (ao : Option Addr) (cap : Nat) (w : World) (h : ExAt w d (.mk k n s a) (encX k n s ao a.length cap)) :
    Calls Tryd.prog 21 #[.agg #[.int .i64 k, .int .i64 n, .string s, .slice ao a.length cap]] w fun e w' => e = .returned (.bool (decide (wtE (.mk k n s a) ≤ 400))) ∧ Below w.heap.size w w' := by
  have HX := hide (weight_any d k n s a ao cap (boxX w k n s ao a.length cap) (h.later (box_below w k n s ao a.length cap) (Nat.le_refl _)))
  have hb1 := box_below w k n s ao a.length cap
  clear h
  generalize wtE (.mk k n s a) = q at *
  go_enter Tryd.func21, Tryd.ntmps21
  go_wp2_with fail
  refine HX.out.mono ?_
  rintro e w1 ⟨rfl, b1⟩
  go_wp2
  go_ret
  exact ⟨rfl, hb1.trans (b1.mono hb1.size)⟩
mutual
/-- expr.size: at floor deep, with so many left -/
def szE : ExprV → Int → Int → Bool × Int
  | .mk _ _ _ a, deep, left => if 5 < deep ∨ left - 1 < 0 then (false, left - 1) else szL a (deep + 1) (left - 1)
def szL : List ExprV → Int → Int → Bool × Int
  | [], _, left => (true, left)
  | x :: l, deep, left => if (szE x deep left).1 = true then szL l deep (szE x deep left).2 else (false, (szE x deep left).2)
end
mutual
theorem szE_le : ∀ (e : ExprV) (deep left : Int), 0 ≤ left → (szE e deep left).2 < left ∧ -1 ≤ (szE e deep left).2 ∧ ((szE e deep left).1 = true → 0 ≤ (szE e deep left).2)
  | .mk k n s a, deep, left, h => by
    unfold szE
    split
    · exact ⟨by show left - 1 < left; omega, by show -1 ≤ left - 1; omega, fun h => (by cases h)⟩
    · have := szL_le a (deep + 1) (left - 1) (by omega)
      exact ⟨by omega, this.2.1, this.2.2⟩
theorem szL_le : ∀ (l : List ExprV) (deep left : Int), 0 ≤ left → (szL l deep left).2 ≤ left ∧ -1 ≤ (szL l deep left).2 ∧ ((szL l deep left).1 = true → 0 ≤ (szL l deep left).2)
  | [], deep, left, h => by unfold szL; exact ⟨Int.le_refl _, by show -1 ≤ left; omega, fun _ => h⟩
  | x :: l, deep, left, h => by
    have h1 := szE_le x deep left h
    unfold szL
    split
    · rename_i hb
      have h2 := szL_le l deep _ (h1.2.2 hb)
      exact ⟨by omega, h2.2.1, h2.2.2⟩
    · exact ⟨by show (szE x deep left).2 ≤ left; omega, h1.2.1, fun h => (by cases h)⟩
end
mutual
theorem szE_iff : ∀ (e : ExprV) (deep left : Int), 0 ≤ left → (((szE e deep left).1 = true ↔ (e.nodes : Int) ≤ left ∧ deep + e.deep ≤ 6) ∧ ((szE e deep left).1 = true → (szE e deep left).2 = left - e.nodes))
  | .mk k n s a, deep, left, h => by
    unfold szE ExprV.nodes ExprV.deep
    split
    · rename_i hc
      refine ⟨⟨fun h => (by cases h), fun ⟨h1, h2⟩ => ?_⟩, fun h => (by cases h)⟩
      push_cast at h1 h2
      omega
    · rename_i hc
      have := szL_iff a (deep + 1) (left - 1) (by omega) (by omega)
      push_cast
      refine ⟨?_, fun hb => ?_⟩
      · rw [this.1]; constructor <;> intro h3 <;> omega
      · rw [this.2 hb]; omega
theorem szL_iff : ∀ (l : List ExprV) (deep left : Int), 0 ≤ left → deep ≤ 6 → (((szL l deep left).1 = true ↔ (ExprV.nodesL l : Int) ≤ left ∧ deep + ExprV.deepL l ≤ 6) ∧ ((szL l deep left).1 = true → (szL l deep left).2 = left - ExprV.nodesL l))
  | [], deep, left, h, hd => by unfold szL ExprV.nodesL ExprV.deepL; simp; omega
  | x :: l, deep, left, h, hd => by
    have h1 := szE_iff x deep left h
    have h0 := szE_le x deep left h
    unfold szL ExprV.nodesL ExprV.deepL
    split
    · rename_i hb
      have h2 := szL_iff l deep _ (h0.2.2 hb) hd
      rw [h1.2 hb] at h2 ⊢
      have h3 := h1.1.1 hb
      push_cast
      refine ⟨?_, fun hb2 => ?_⟩
      · rw [h2.1]; constructor <;> intro h4 <;> omega
      · rw [h2.2 hb2]; omega
    · rename_i hb
      refine ⟨⟨fun h => (by cases h), fun ⟨h3, h4⟩ => ?_⟩, fun h => (by cases h)⟩
      exact absurd (h1.1.2 ⟨by push_cast at h3; omega, by push_cast at h4; omega⟩) hb
end
end Go.Proofs.YtjkggijkccbcpaaDoor
