/- Pairs sorted in place: rotation, the merge of two runs. -/
import Derived.Test.YtgeedjlbajmdkaaGreatDoorSort
set_option linter.unusedSimpArgs false
set_option linter.unusedVariables false
namespace Go.Proofs.YtgeedjlbajmdkaaGreatDoor
open Go.RowKit

set_option maxHeartbeats 1000000 in
theorem rotate_any (a m b n cap g : Nat) (A X Y B : List Pr) (c : Value) {w : World} {base : Nat} (h : OwnP w base g n cap (A ++ X ++ Y ++ B)) (hn : n ≤ 1000000000) (ha : A.length = a) (hm : a + X.length = m) (hb : m + Y.length = b) (hX : 0 < X.length) (hY : 0 < Y.length) :
    Calls Tryz.prog 159 #[.slice (some ⟨g, 0, none⟩) n cap, .int .i64 a, .int .i64 m, .int .i64 b, c] w fun e w' => e = .returned (.tuple #[]) ∧ KeptBut (fun q => q = g) w w' ∧ OwnP w' base g n cap (A ++ Y ++ X ++ B) := by
  have hlen := h.len
  simp at hlen
  have hbn : b ≤ n := by omega
  have HB := hide hb
  have H := hide h; clear h
  have hR : Hid (A ++ Y ++ X ++ B = A ++ Y ++ X ++ B) := rfl
  have HI : Hid (∃ pre P Q post, A ++ X ++ Y ++ B = pre ++ P ++ Q ++ post ∧ A ++ Y ++ X ++ B = pre ++ Q ++ P ++ post ∧ pre.length + P.length = m ∧ P.length = m - a ∧ Q.length = b - m) := ⟨A, X, Y, B, rfl, rfl, by omega, by omega, by omega⟩
  have e1 : IntKind.i64.wrap ((m : Int) - a) = ((m - a : Nat) : Int) := by rw [IntWalk.i64_in _ (by omega)]; omega
  have h1 : 0 < m - a := by omega
  have h2 : 0 < b - m := by omega
  have h3 : a ≤ m := by omega
  have h4 : m ≤ b := by omega
  have h5 : m + (b - m) ≤ n := by omega
  generalize hR1 : A ++ Y ++ X ++ B = R at *
  generalize hL1 : A ++ X ++ Y ++ B = L at *
  clear hR1 hL1 hlen hm hb ha hX hY e1 hR HB
  go_enter Tryz.func159, Tryz.ntmps159
  go_wp2
  go_loopw [10, 11] (fun p q wr => ∃ i j : Nat, ∃ cur, p = .int .i64 i ∧ q = .int .i64 j ∧ 0 < i ∧ 0 < j ∧ i ≤ m ∧ m + j ≤ n ∧ Hid (∃ pre P Q post, cur = pre ++ P ++ Q ++ post ∧ R = pre ++ Q ++ P ++ post ∧ pre.length + P.length = m ∧ P.length = i ∧ Q.length = j) ∧ KeptBut (fun q => q = g) w wr ∧ OwnP wr base g n cap cur) (fun p q _ => (intOf p).toNat + (intOf q).toNat)
  case atStart => exact ⟨m - a, b - m, L, by go_num, by go_num, h1, h2, by omega, h5, HI, KeptBut.refl _ _, H.out⟩
  case round =>
    obtain ⟨i, j, cur, rfl, rfl, hi, hj, him, hjn, HC, hkb, hown⟩ := hrel
    by_cases hij : i = j
    · subst hij
      have e1 : ((i : Int) != i) = false := by simp
      go_wp2_with fail
      rw [show ((m : Int) - i) = ((m - i : Nat) : Int) from by omega]
      with_reducible refine (swapRange_any (m - i) m i n cap g cur c hown hn (by omega) (by omega) (by omega)).mono ?_
      rintro e w1 ⟨rfl, k1, o1⟩
      go_wp2
      go_end0
      refine ⟨rfl, hkb.trans k1, ?_⟩
      obtain ⟨pre, P, Q, post, hc, hr, h1, h2, h3⟩ := HC.out
      rw [hr]
      have := swapN_two (A := pre) (X := P) (M := []) (Y := Q) (B := post) (a := m - i) (b := m) (n := i) h2 h3 (by omega) (by simp; omega)
      simp only [List.append_nil] at this
      rw [hc, this] at o1
      exact o1
    · have e1 : ((i : Int) != j) = true := by rw [bne_iff_ne]; omega
      by_cases hlt : j < i
      · have e2 : decide ((j : Int) < i) = true := by simp; omega
        have e2' : decide (j < i) = true := by simpa using hlt
        go_wp2_with fail
        rw [show ((m : Int) - i) = ((m - i : Nat) : Int) from by omega]
        with_reducible refine (swapRange_any (m - i) m j n cap g cur c hown hn (by omega) (by omega) (by omega)).mono ?_
        rintro e w1 ⟨rfl, k1, o1⟩
        have HC' : Hid (∃ pre P Q post, swapN cur (m - i) m j = pre ++ P ++ Q ++ post ∧ R = pre ++ Q ++ P ++ post ∧ pre.length + P.length = m ∧ P.length = i - j ∧ Q.length = j) := by
          obtain ⟨pre, P, Q, post, hc, hr, h1, h2, h3⟩ := HC.out
          refine ⟨pre ++ Q, P.drop j, P.take j, post, ?_, ?_, by simp; omega, by simp; omega, by simp; omega⟩
          · have := swapN_two (A := pre) (X := P.take j) (M := P.drop j) (Y := Q) (B := post) (a := m - i) (b := m) (n := j) (by simp; omega) h3 (by omega) (by simp; omega)
            rw [hc, show pre ++ P ++ Q ++ post = pre ++ P.take j ++ P.drop j ++ Q ++ post by rw [List.append_assoc pre (P.take j), List.take_append_drop], this]
          · rw [hr, List.append_assoc (pre ++ Q) (P.take j), List.take_append_drop]
        have e3 : ((i - j : Nat) : Int) = (i : Int) - j := by omega
        have HE := hide e3
        have HK := hide (hkb.trans k1)
        have HO := hide o1
        clear e3 HC hkb k1 o1 hown
        go_wp2
        go_roundw
        case rel => exact ⟨i - j, j, _, by rw [HE.out], rfl, by omega, by omega, by omega, by omega, HC', HK.out, HO.out⟩
        case measure => simp [intOf]; omega
      · have e2 : decide ((j : Int) < i) = false := by simp; omega
        have e2' : decide (j < i) = false := by simp; omega
        go_wp2_with fail
        rw [show ((m : Int) - i) = ((m - i : Nat) : Int) from by omega, show ((m : Int) + j - i) = ((m + j - i : Nat) : Int) from by omega]
        with_reducible refine (swapRange_any (m - i) (m + j - i) i n cap g cur c hown hn (by omega) (by omega) (by omega)).mono ?_
        rintro e w1 ⟨rfl, k1, o1⟩
        have HC' : Hid (∃ pre P Q post, swapN cur (m - i) (m + j - i) i = pre ++ P ++ Q ++ post ∧ R = pre ++ Q ++ P ++ post ∧ pre.length + P.length = m ∧ P.length = i ∧ Q.length = j - i) := by
          obtain ⟨pre, P, Q, post, hc, hr, h1, h2, h3⟩ := HC.out
          refine ⟨pre, Q.drop (j - i), Q.take (j - i), P ++ post, ?_, ?_, by simp; omega, by simp; omega, by simp; omega⟩
          · have := swapN_two (A := pre) (X := P) (M := Q.take (j - i)) (Y := Q.drop (j - i)) (B := post) (a := m - i) (b := m + j - i) (n := i) h2 (by simp; omega) (by omega) (by simp; omega)
            rw [hc, show pre ++ P ++ Q ++ post = pre ++ P ++ Q.take (j - i) ++ Q.drop (j - i) ++ post by rw [List.append_assoc (pre ++ P) (Q.take (j - i)), List.take_append_drop], this]
            simp
          · rw [hr]
            rw [← List.append_assoc, List.append_assoc pre (Q.take (j - i)), List.take_append_drop]
        have e3 : ((j - i : Nat) : Int) = (j : Int) - i := by omega
        have HE := hide e3
        have HK := hide (hkb.trans k1)
        have HO := hide o1
        clear e3 HC hkb k1 o1 hown
        go_wp2
        go_roundw
        case rel => exact ⟨i, j - i, _, rfl, by rw [HE.out], by omega, by omega, by omega, by omega, HC', HK.out, HO.out⟩
        case measure => simp [intOf]; omega
end Go.Proofs.YtgeedjlbajmdkaaGreatDoor
