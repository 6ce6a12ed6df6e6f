/- Expressions: how long a text can be. -/
import Derived.Test.YtafogaopccajaaaDoorExpr7
set_option linter.unusedSimpArgs false
set_option linter.unusedVariables false
namespace Go.Proofs.YtafogaopccajaaaDoor
open Go.RowKit

theorem getD_size (xs : List ByteArray) : (xs.getD 0 ⟨#[]⟩).size + (xs.getD 1 ⟨#[]⟩).size ≤ (xs.map ByteArray.size).sum := by
  match xs with
  | [] => exact Nat.le_refl 0
  | [x] =>
    show x.size + 0 ≤ _
    simp
  | x :: y :: r =>
    show x.size + y.size ≤ _
    simp only [List.map_cons, List.sum_cons]
    omega
theorem strK_le {k n : Int} {s line it : ByteArray} {ws xs : List ByteArray} (hl : line.size ≤ 1000) (hi : it.size ≤ 1000) (hw : ∀ w ∈ ws, w.size ≤ 1000) (hs : k = 4 → s.size ≤ 1000) :
    (strK k n s line it ws xs).size ≤ 1000 + (xs.map ByteArray.size).sum := by
  have hg := getD_size xs
  unfold strK
  split
  · omega
  · split
    · omega
    · split
      · rw [List.getD_eq_getElem?_getD]
        cases h : ws[n.toNat]? with
        | none => exact Nat.zero_le _
        | some w => have := hw w (List.mem_of_getElem? h); show w.size ≤ _; omega
      · split
        · rename_i h4; have := hs h4; omega
        · split
          · rw [ByteArray.size_append]; omega
          · split
            · rw [ByteArray.size_extract]; omega
            · exact Nat.zero_le _
mutual
theorem strE_le {line it : ByteArray} {ws : List ByteArray} {each : Bool} (hl : line.size ≤ 1000) (hi : it.size ≤ 1000) (hw : ∀ w ∈ ws, w.size ≤ 1000) : ∀ e : ExprV, shE e true each = true → (strE e line it ws).size ≤ 1000 * e.nodes
  | .mk k n s a, h => by
    obtain ⟨p1, p2, p3, p4, p5, p6⟩ := shE_parts h
    have p4' : k ≤ 6 := by simpa using p4
    have hkid : ∀ t ∈ kidsOf k, t = true := by
      intro t ht
      unfold kidsOf at ht
      split at ht
      · simpa using ht
      · split at ht
        · simpa using ht
        · split at ht
          · omega
          · simp at ht
    have h1 := strL_le hl hi hw a (kidsOf k) p6 hkid p5
    have h2 := strK_le (k := k) (n := n) (s := s) (xs := strL a line it ws) hl hi hw (fun h4 => by
      subst h4
      rw [sOk_4] at p3
      simp only [Bool.and_eq_true, decide_eq_true_eq] at p3
      omega)
    rw [strE, ExprV.nodes]
    omega
theorem strL_le {line it : ByteArray} {ws : List ByteArray} {each : Bool} (hl : line.size ≤ 1000) (hi : it.size ≤ 1000) (hw : ∀ w ∈ ws, w.size ≤ 1000) : ∀ (l : List ExprV) (ts : List Bool), shL l ts each = true → (∀ t ∈ ts, t = true) → l.length = ts.length → ((strL l line it ws).map ByteArray.size).sum ≤ 1000 * ExprV.nodesL l
  | [], _, _, _, _ => by simp [strL]
  | x :: l, [], _, _, hlen => by simp at hlen
  | x :: l, t :: ts, h, ht, hlen => by
    rw [shL] at h
    simp only [Bool.and_eq_true] at h
    obtain rfl := ht t List.mem_cons_self
    have h1 := strE_le hl hi hw x h.1
    have h2 := strL_le hl hi hw l ts h.2 (fun t h => ht t (List.mem_cons_of_mem _ h)) (by simpa using hlen)
    rw [strL, List.map_cons, List.sum_cons, ExprV.nodesL]
    omega
end
theorem str_small {line it : ByteArray} {ws : List ByteArray} {each : Bool} (hl : line.size ≤ 1000) (hi : it.size ≤ 1000) (hw : ∀ w ∈ ws, w.size ≤ 1000) : Hid (∀ e : ExprV, shE e true each = true → e.nodes ≤ 1000 → (strE e line it ws).size ≤ 1000000) := by
  intro e h hn
  have := strE_le hl hi hw e h
  have h2 : 1000 * e.nodes ≤ 1000 * 1000 := Nat.mul_le_mul_left 1000 hn
  omega
end Go.Proofs.YtafogaopccajaaaDoor
