/- Pairs sorted in place: the merge of two runs, walked: one ahead of a run; one behind a run. -/
import Derived.Test.YtgeedjlbajmdkaaGreatDoorOrder2
set_option linter.unusedSimpArgs false
set_option linter.unusedVariables false
namespace Go.Proofs.YtgeedjlbajmdkaaGreatDoor
open Go.RowKit

set_option maxRecDepth 100000 in
set_option maxHeartbeats 4000000 in
theorem sym_left (a m b n cap g : Nat) (l : List Pr) {w : World} {base : Nat} (h : OwnP w base g n cap l) (hn : n ≤ 1000000000) (hm : m = a + 1) (hb : m < b) (hbn : b ≤ n) (hr : Rise (seg l m b)) :
    Calls Tryz.prog 145 #[.slice (some ⟨g, 0, none⟩) n cap, .int .i64 a, .int .i64 m, .int .i64 b, .func (.func 104) #[] #[]] w fun e w' => e = .returned (.tuple #[]) ∧ KeptBut (fun q => q = g) w w' ∧ OwnP w' base g n cap (sortSeg l a b) := by
  have hlen := hide h.len
  have H := hide h; clear h
  have HR := hide hr; clear hr
  have e1 : ((m : Int) - a == 1) = true := by simp; omega
  have hm1 : a < m := by omega
  have HM := hide hm; clear hm
  obtain ⟨x, hx⟩ := get_some (l := l) (i := a) (by rw [← hlen.out]; omega)
  have HX := hide hx
  clear hx
  go_enter Tryz.func145, Tryz.ntmps145
  go_wp2
  go_loopw [10, 11] (fun p q wr => ∃ i j : Nat, p = .int .i64 i ∧ q = .int .i64 j ∧ i ≤ j ∧ m ≤ i ∧ j ≤ b ∧ Hid (Ends (fun k => klt (el l k) x) m b i j) ∧ Below w.heap.size w wr) (fun p q _ => (intOf q).toNat - (intOf p).toNat)
  case atStart => exact ⟨m, b, rfl, rfl, by omega, by omega, by omega, Ends.start _ (by omega), Below.refl _ _⟩
  case round =>
    obtain ⟨i, j, rfl, rfl, hij, hmi, hjb, HE, hbl⟩ := hrel
    by_cases hlt : i < j
    · obtain ⟨h, hh⟩ : ∃ h : Nat, ((i : Int) + j) / 2 = (h : Int) := ⟨(i + j) / 2, by omega⟩
      have g1 : i ≤ h := by omega
      have g2 : h < j := by omega
      obtain ⟨y, hy⟩ := get_some (l := l) (i := h) (by rw [← hlen.out]; omega)
      have ho := H.out.later hbl
      obtain ⟨x0, x1, _, _, _⟩ := OwnP.at ho HX.out
      obtain ⟨y0, y1, _, _, _⟩ := OwnP.at ho hy
      have hel : Hid (el l h = y) := el_of hy
      have f1 : (0 : Int) ≤ (h : Int) ∧ (h : Int) < (n : Int) ∧ (0 : Int) ≤ (a : Int) ∧ (a : Int) < (n : Int) := by omega
      obtain ⟨f1, f2, f3, f4⟩ := f1
      have f8 := cmpI_neg y x
      have HO := hide ho
      clear hy ho
      cases hk : klt y x
      · rw [hk] at f8
        have HE2 : Hid (Ends (fun k => klt (el l k) x) m b i h) := HE.out.down g1 g2 (by show klt (el l h) x = false; rw [hel.out]; exact hk)
        clear hk HE
        go_wp2
        go_region_held3 (fun w' => w'.cell? ⟨g, h * 2, none⟩ = some (.string y.1) ∧ w'.cell? ⟨g, h * 2 + 1, none⟩ = some (.int .i64 y.2) ∧ w'.cell? ⟨g, a * 2, none⟩ = some (.string x.1) ∧ w'.cell? ⟨g, a * 2 + 1, none⟩ = some (.int .i64 x.2) ∧ Below wr.heap.size wr w')
          (first | (go_split_ands; exact ⟨by simpa using y0, by simpa using y1, by simpa using x0, by simpa using x1, (Below.refl _ _).drew⟩) | (go_split_ands; exact ⟨cell_later hb1 (by assumption), cell_later hb1 (by assumption), cell_later hb1 (by assumption), cell_later hb1 (by assumption), Below.trans (by assumption) (hb1.mono (Below.size (by assumption)))⟩))
          ((go_at_call 104; refine (sortCmp y x _).mono ?_; rintro e w1 ⟨rfl, hb1⟩))
        all_goals
          have hbl1 : Below wr.heap.size wr w1 := And.right (And.right (And.right (And.right (by assumption))))
          have hbl2 := hbl.trans (hbl1.mono hbl.size)
          have HH := hide hh
          clear hh
          go_wp2
          go_roundw
          case rel => exact ⟨i, h, rfl, rfl, by omega, by omega, by omega, HE2, hbl2⟩
          case measure => (simp [intOf]; try omega)
      · rw [hk] at f8
        have HE2 : Hid (Ends (fun k => klt (el l k) x) m b (h + 1) j) := HE.out.up g1 g2 (by show klt (el l h) x = true; rw [hel.out]; exact hk)
        clear hk HE
        go_wp2
        go_region_held3 (fun w' => w'.cell? ⟨g, h * 2, none⟩ = some (.string y.1) ∧ w'.cell? ⟨g, h * 2 + 1, none⟩ = some (.int .i64 y.2) ∧ w'.cell? ⟨g, a * 2, none⟩ = some (.string x.1) ∧ w'.cell? ⟨g, a * 2 + 1, none⟩ = some (.int .i64 x.2) ∧ Below wr.heap.size wr w')
          (first | (go_split_ands; exact ⟨by simpa using y0, by simpa using y1, by simpa using x0, by simpa using x1, (Below.refl _ _).drew⟩) | (go_split_ands; exact ⟨cell_later hb1 (by assumption), cell_later hb1 (by assumption), cell_later hb1 (by assumption), cell_later hb1 (by assumption), Below.trans (by assumption) (hb1.mono (Below.size (by assumption)))⟩))
          ((go_at_call 104; refine (sortCmp y x _).mono ?_; rintro e w1 ⟨rfl, hb1⟩))
        all_goals
          have hbl1 : Below wr.heap.size wr w1 := And.right (And.right (And.right (And.right (by assumption))))
          have hbl2 := hbl.trans (hbl1.mono hbl.size)
          have HH := hide hh
          clear hh
          go_wp2
          go_roundw
          case rel => exact ⟨h + 1, j, by go_num, rfl, by omega, by omega, by omega, HE2, hbl2⟩
          case measure => (simp [intOf]; try omega)
    · obtain rfl : j = i := by omega
      have HL : Hid (upBy l a (j - (a + 1)) = sortSeg l a b) := by
        have hE := HE.out; have hR := HR.out
        rw [HM.out] at hE hR
        exact sym_left_law HX.out (by rw [← hlen.out]; omega) (by have := HM.out; omega) hR hE
      have e2 : decide ((j : Int) < j) = false := by simp
      clear HE
      have hown := H.out.later hbl
      have HKB := hide (KeptBut.of_below (S := fun q => q = g) hbl (Nat.le_refl _))
      have HOWN := hide hown
      have HM2 := HM
      clear hown hbl
      obtain ⟨wo, hwo⟩ : ∃ wo : World, wo = wr := ⟨wr, rfl⟩
      subst hwo
      go_wp2
      go_loopw [13] (fun p wr => ∃ q : Nat, p = .int .i64 ((a : Int) + q) ∧ (a + q + 1 ≤ j) ∧ KeptBut (fun q => q = g) w wr ∧ OwnP wr base g n cap (upBy l a q)) (fun p _ => j - (intOf p).toNat)
      case atStart => exact ⟨0, by go_num, by omega, HKB.out, HOWN.out⟩
      case round =>
        obtain ⟨q, rfl, hq, hkb, hown⟩ := hrel
        by_cases hlq : a + q + 1 < j
        · have hlu := upBy_len l a q
          rw [← hlen.out] at hlu
          obtain ⟨u, hu⟩ := get_some (l := upBy l a q) (i := a + q) (by omega)
          obtain ⟨v, hv⟩ := get_some (l := upBy l a q) (i := a + q + 1) (by omega)
          obtain ⟨u0, u1, uz, uz', _⟩ := OwnP.at hown hu
          obtain ⟨v0, v1, vz, vz', _⟩ := OwnP.at hown hv
          have HS := hide (OwnP.swap hown hu hv)
          have HK := hide (hkb.trans (swap_kept wr g (a + q) (a + q + 1) u v))
          have f1 : (0 : Int) ≤ (a : Int) + q ∧ (a : Int) + q < (n : Int) ∧ (0 : Int) ≤ (a : Int) + q + 1 ∧ (a : Int) + q + 1 < (n : Int) := by omega
          obtain ⟨f1, f2, f3, f4⟩ := f1
          have f5 : IntKind.i64.wrap ((a : Int) + q + 1) = (a : Int) + q + 1 := IntWalk.i64_in _ (by omega)
          have f7 : ((a : Int) + q).toNat = a + q := by omega
          have f8 : ((a : Int) + q + 1).toNat = a + q + 1 := by omega
          have f9 : decide ((a : Int) + q < (j : Int) - 1) = true := by simp; omega
          clear hown hkb hu hv hlu
          go_wp2
          go_region
          all_goals
            clear f5 f7 f8
            go_wp2
            go_roundw
            case rel => exact ⟨q + 1, by go_num, by omega, HK.out.drew, HS.out.drew⟩
            case measure => (simp [intOf]; try omega)
        · have f9 : decide ((a : Int) + q < (j : Int) - 1) = false := by simp; omega
          have HQ := hide (show q = j - (a + 1) by omega)
          go_wp2
          exact bodyPost_ret (v := .tuple #[]) (by simp [results, Tryz.results145, go_sem]) rfl ⟨rfl, hkb, by rw [← HL.out, ← HQ.out]; exact hown⟩
set_option maxRecDepth 100000 in
set_option maxHeartbeats 4000000 in
theorem sym_right (a m b n cap g : Nat) (l : List Pr) {w : World} {base : Nat} (h : OwnP w base g n cap l) (hn : n ≤ 1000000000) (hm : b = m + 1) (hb : a + 1 < m) (hbn : b ≤ n) (hr : Rise (seg l a m)) :
    Calls Tryz.prog 145 #[.slice (some ⟨g, 0, none⟩) n cap, .int .i64 a, .int .i64 m, .int .i64 b, .func (.func 104) #[] #[]] w fun e w' => e = .returned (.tuple #[]) ∧ KeptBut (fun q => q = g) w w' ∧ OwnP w' base g n cap (sortSeg l a b) := by
  have hlen := hide h.len
  have H := hide h; clear h
  have HR := hide hr; clear hr
  have e0 : ((m : Int) - a == 1) = false := by rw [beq_eq_false_iff_ne]; omega
  have e1 : ((b : Int) - m == 1) = true := by simp; omega
  have hm1 : m < b := by omega
  have HM := hide hm; clear hm
  obtain ⟨x, hx⟩ := get_some (l := l) (i := m) (by rw [← hlen.out]; omega)
  have HX := hide hx
  clear hx
  go_enter Tryz.func145, Tryz.ntmps145
  go_wp2
  go_loopw [14, 15] (fun p q wr => ∃ i j : Nat, p = .int .i64 i ∧ q = .int .i64 j ∧ i ≤ j ∧ a ≤ i ∧ j ≤ m ∧ Hid (Ends (fun k => !klt x (el l k)) a m i j) ∧ Below w.heap.size w wr) (fun p q _ => (intOf q).toNat - (intOf p).toNat)
  case atStart => exact ⟨a, m, rfl, rfl, by omega, by omega, by omega, Ends.start _ (by omega), Below.refl _ _⟩
  case round =>
    obtain ⟨i, j, rfl, rfl, hij, hmi, hjb, HE, hbl⟩ := hrel
    by_cases hlt : i < j
    · obtain ⟨h, hh⟩ : ∃ h : Nat, ((i : Int) + j) / 2 = (h : Int) := ⟨(i + j) / 2, by omega⟩
      have g1 : i ≤ h := by omega
      have g2 : h < j := by omega
      obtain ⟨y, hy⟩ := get_some (l := l) (i := h) (by rw [← hlen.out]; omega)
      have ho := H.out.later hbl
      obtain ⟨x0, x1, _, _, _⟩ := OwnP.at ho HX.out
      obtain ⟨y0, y1, _, _, _⟩ := OwnP.at ho hy
      have hel : Hid (el l h = y) := el_of hy
      have f1 : (0 : Int) ≤ (h : Int) ∧ (h : Int) < (n : Int) ∧ (0 : Int) ≤ (m : Int) ∧ (m : Int) < (n : Int) := by omega
      obtain ⟨f1, f2, f3, f4⟩ := f1
      have f8 := cmpI_neg x y
      have HO := hide ho
      clear hy ho
      cases hk : klt x y
      · rw [hk] at f8
        have HE2 : Hid (Ends (fun k => !klt x (el l k)) a m (h + 1) j) := HE.out.up g1 g2 (by show (!klt x (el l h)) = true; rw [hel.out, hk]; rfl)
        clear hk HE
        go_wp2
        go_region_held3 (fun w' => w'.cell? ⟨g, h * 2, none⟩ = some (.string y.1) ∧ w'.cell? ⟨g, h * 2 + 1, none⟩ = some (.int .i64 y.2) ∧ w'.cell? ⟨g, m * 2, none⟩ = some (.string x.1) ∧ w'.cell? ⟨g, m * 2 + 1, none⟩ = some (.int .i64 x.2) ∧ Below wr.heap.size wr w')
          (first | (go_split_ands; exact ⟨by simpa using y0, by simpa using y1, by simpa using x0, by simpa using x1, (Below.refl _ _).drew⟩) | (go_split_ands; exact ⟨cell_later hb1 (by assumption), cell_later hb1 (by assumption), cell_later hb1 (by assumption), cell_later hb1 (by assumption), Below.trans (by assumption) (hb1.mono (Below.size (by assumption)))⟩))
          ((go_at_call 104; refine (sortCmp x y _).mono ?_; rintro e w1 ⟨rfl, hb1⟩))
        all_goals
          have hbl1 : Below wr.heap.size wr w1 := And.right (And.right (And.right (And.right (by assumption))))
          have hbl2 := hbl.trans (hbl1.mono hbl.size)
          have HH := hide hh
          clear hh
          go_wp2
          go_roundw
          case rel => exact ⟨h + 1, j, by go_num, rfl, by omega, by omega, by omega, HE2, hbl2⟩
          case measure => (simp [intOf]; try omega)
      · rw [hk] at f8
        have HE2 : Hid (Ends (fun k => !klt x (el l k)) a m i h) := HE.out.down g1 g2 (by show (!klt x (el l h)) = false; rw [hel.out, hk]; rfl)
        clear hk HE
        go_wp2
        go_region_held3 (fun w' => w'.cell? ⟨g, h * 2, none⟩ = some (.string y.1) ∧ w'.cell? ⟨g, h * 2 + 1, none⟩ = some (.int .i64 y.2) ∧ w'.cell? ⟨g, m * 2, none⟩ = some (.string x.1) ∧ w'.cell? ⟨g, m * 2 + 1, none⟩ = some (.int .i64 x.2) ∧ Below wr.heap.size wr w')
          (first | (go_split_ands; exact ⟨by simpa using y0, by simpa using y1, by simpa using x0, by simpa using x1, (Below.refl _ _).drew⟩) | (go_split_ands; exact ⟨cell_later hb1 (by assumption), cell_later hb1 (by assumption), cell_later hb1 (by assumption), cell_later hb1 (by assumption), Below.trans (by assumption) (hb1.mono (Below.size (by assumption)))⟩))
          ((go_at_call 104; refine (sortCmp x y _).mono ?_; rintro e w1 ⟨rfl, hb1⟩))
        all_goals
          have hbl1 : Below wr.heap.size wr w1 := And.right (And.right (And.right (And.right (by assumption))))
          have hbl2 := hbl.trans (hbl1.mono hbl.size)
          have HH := hide hh
          clear hh
          go_wp2
          go_roundw
          case rel => exact ⟨i, h, rfl, rfl, by omega, by omega, by omega, HE2, hbl2⟩
          case measure => (simp [intOf]; try omega)
    · obtain rfl : j = i := by omega
      have HL : Hid (downBy l m (m - j) = sortSeg l a b) := by
        rw [HM.out]
        exact sym_right_law HX.out (by omega) HR.out HE.out
      have e2 : decide ((j : Int) < j) = false := by simp
      clear HE
      have hown := H.out.later hbl
      have HKB := hide (KeptBut.of_below (S := fun q => q = g) hbl (Nat.le_refl _))
      have HOWN := hide hown
      have HM2 := HM
      clear hown hbl
      obtain ⟨wo, hwo⟩ : ∃ wo : World, wo = wr := ⟨wr, rfl⟩
      subst hwo
      go_wp2
      go_loopw [17] (fun p wr => ∃ q z : Nat, p = .int .i64 z ∧ z + q = m ∧ j ≤ z ∧ KeptBut (fun q => q = g) w wr ∧ OwnP wr base g n cap (downBy l m q)) (fun p _ => (intOf p).toNat)
      case atStart => exact ⟨0, m, rfl, by omega, by omega, HKB.out, HOWN.out⟩
      case round =>
        obtain ⟨q, z, rfl, hz, hjz, hkb, hown⟩ := hrel
        by_cases hlq : j < z
        · obtain ⟨z, rfl⟩ : ∃ z', z = z' + 1 := ⟨z - 1, by omega⟩
          have hlu := downBy_len l m q
          rw [← hlen.out] at hlu
          obtain ⟨u, hu⟩ := get_some (l := downBy l m q) (i := z + 1) (by omega)
          obtain ⟨v, hv⟩ := get_some (l := downBy l m q) (i := z) (by omega)
          obtain ⟨u0, u1, uz, uz', _⟩ := OwnP.at hown hu
          obtain ⟨v0, v1, vz, vz', _⟩ := OwnP.at hown hv
          have hsw := OwnP.swap hown hu hv
          have e5 : downBy l m (q + 1) = swapAt (downBy l m q) (z + 1) z := by
            show swapAt _ _ _ = _
            rw [show m - q - 1 = z by omega, show m - q = z + 1 by omega]
          rw [← e5] at hsw
          have HS := hide hsw
          have HK := hide (hkb.trans (swap_kept wr g (z + 1) z u v))
          have f1 : (0 : Int) ≤ (z : Int) + 1 ∧ (z : Int) + 1 < (n : Int) ∧ (0 : Int) ≤ (z : Int) ∧ (z : Int) < (n : Int) := by omega
          obtain ⟨f1, f2, f3, f4⟩ := f1
          have f5 : IntKind.i64.wrap (z : Int) = (z : Int) := IntWalk.i64_in _ (by omega)
          have f7 : ((z : Int) + 1).toNat = z + 1 := by omega
          have f9 : decide ((j : Int) < (z : Int) + 1) = true := by simp; omega
          clear hown hkb hu hv hlu hsw e5
          go_wp2
          go_region
          all_goals
            clear f5 f7
            go_wp2
            go_roundw
            case rel => exact ⟨q + 1, z, by go_num, by omega, by omega, HK.out.drew, HS.out.drew⟩
            case measure => (simp [intOf]; try omega)
        · have f9 : decide (j < z) = false := by simp; omega
          have HQ := hide (show q = m - j by omega)
          go_wp2
          exact bodyPost_ret (v := .tuple #[]) (by simp [results, Tryz.results145, go_sem]) rfl ⟨rfl, hkb, by rw [← HL.out, ← HQ.out]; exact hown⟩
end Go.Proofs.YtgeedjlbajmdkaaGreatDoor
