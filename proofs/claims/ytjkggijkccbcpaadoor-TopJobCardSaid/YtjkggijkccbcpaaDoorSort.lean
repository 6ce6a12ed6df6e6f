/- Pairs that are sorted in place: comparison, exchange, insertion, rotation. -/
import Derived.Test.YtjkggijkccbcpaaDoorMergeLaw
import Derived.Test.YtjkggijkccbcpaaDoorBuild
import Derived.Deep.RegionHeld3
import Derived.BigRegion
import Derived.Test.YtjkggijkccbcpaaDoorRows
set_option linter.unusedSimpArgs false
set_option linter.unusedVariables false
namespace Go.Proofs.YtjkggijkccbcpaaDoor
open Go.RowKit

theorem isNaN_s (s : ByteArray) (w : World) :
    Calls Tryd.prog 71 #[.string s] w fun e w' => e = .returned (.bool false) ∧ w = w' := by
  go_enter Tryd.func71, Tryd.ntmps71
  go_wp2
  go_ret
  exact ⟨by simp, rfl⟩
def cmpI (a b : ByteArray) : Int := if Op.bytesLess a.toList b.toList then -1 else if Op.bytesLess b.toList a.toList then 1 else 0
theorem Compare_s (x y : ByteArray) (w : World) :
    Calls Tryd.prog 49 #[.string x, .string y] w fun e w' => e = .returned (.int .i64 (cmpI x y)) ∧ w = w' := by
  cases h : Op.bytesLess x.toList y.toList
  · cases h2 : Op.bytesLess y.toList x.toList
    · have hr : cmpI x y = 0 := by unfold cmpI; rw [h, h2]; rfl
      have he : (x.toList == y.toList) = true := by
        rcases bl_tri x.toList y.toList with h3 | h3 | h3
        · rw [h] at h3; cases h3
        · simpa using h3
        · rw [h2] at h3; cases h3
      rw [hr]; clear hr
      go_enter Tryd.func49, Tryd.ntmps49
      go_wp2_with (go_at_call 71; refine (isNaN_s _ _).mono ?_; rintro e w1 ⟨rfl, rfl⟩)
      go_ret
      exact ⟨rfl, rfl⟩
    · have hr : cmpI x y = 1 := by unfold cmpI; rw [h, h2]; rfl
      have he : (x.toList == y.toList) = false := by
        rw [beq_eq_false_iff_ne]; intro e; rw [e, bl_irrefl] at h2; cases h2
      rw [hr]; clear hr
      go_enter Tryd.func49, Tryd.ntmps49
      go_wp2_with (go_at_call 71; refine (isNaN_s _ _).mono ?_; rintro e w1 ⟨rfl, rfl⟩)
      go_ret
      exact ⟨rfl, rfl⟩
  · have hr : cmpI x y = -1 := by unfold cmpI; rw [h]; rfl
    rw [hr]; clear hr
    go_enter Tryd.func49, Tryd.ntmps49
    go_wp2_with (go_at_call 71; refine (isNaN_s _ _).mono ?_; rintro e w1 ⟨rfl, rfl⟩)
    go_ret
    exact ⟨rfl, rfl⟩
theorem cmpI_neg (a b : Pr) : decide (cmpI a.1 b.1 < 0) = klt a b := by
  unfold cmpI klt
  split
  · rename_i h; rw [h]; rfl
  · rename_i h
    have h' : Op.bytesLess a.1.toList b.1.toList = false := by simpa using h
    rw [h']
    split <;> rfl
/-- the value of a pair -/
def prV (p : Pr) : Value := .agg #[.string p.1, .int .i64 p.2]
theorem sortCmp (a b : Pr) (w : World) :
    Calls Tryd.prog 48 #[.agg #[.string a.1, .int .i64 a.2], .agg #[.string b.1, .int .i64 b.2]] w fun e w' => e = .returned (.int .i64 (cmpI a.1 b.1)) ∧ Below w.heap.size w w' := by
  go_enter Tryd.func48, Tryd.ntmps48
  go_wp2_with fail
  refine (Compare_s _ _ _).mono ?_
  rintro e w1 ⟨rfl, rfl⟩
  go_wp2
  go_ret
  exact ⟨rfl, ((Below.refl _ _).alloc (Nat.le_refl _) _).alloc (by simp) _⟩

/-- the pairs l lie in block g, of the call's own -/
abbrev OwnP (w : World) (base g n cap : Nat) (l : List Pr) : Prop := Own 2 encP 70 w base (.slice (some ⟨g, 0, none⟩) n cap) l
theorem OwnP.at {w : World} {base g n cap : Nat} {l : List Pr} (h : OwnP w base g n cap l) {i : Nat} {p : Pr} (hi : l[i]? = some p) :
    w.cell? ⟨g, i * 2, none⟩ = some (.string p.1) ∧ w.cell? ⟨g, i * 2 + 1, none⟩ = some (.int .i64 p.2) ∧ w.frozen? ⟨g, i * 2, none⟩ = false ∧ w.frozen? ⟨g, i * 2 + 1, none⟩ = false ∧ i < n :=
  ⟨h.cellAt (j := 0) encP_len hi rfl, h.cellAt (j := 1) encP_len hi rfl, h.frozenAt _, h.frozenAt _, by rw [h.len]; exact (List.getElem?_eq_some_iff.1 hi).1⟩
def setPr (w : World) (g k : Nat) (p : Pr) : World := (w.setCell ⟨g, k * 2, none⟩ (.string p.1)).setCell ⟨g, k * 2 + 1, none⟩ (.int .i64 p.2)
theorem OwnP.set {w : World} {base g n cap k : Nat} {l : List Pr} {x : Pr} (h : OwnP w base g n cap l) (hk : l[k]? = some x) (p : Pr) : OwnP (setPr w g k p) base g n cap (l.set k p) := by
  obtain ⟨x0, x1⟩ := x
  obtain ⟨p0, p1⟩ := p
  have hlt := (List.getElem?_eq_some_iff.1 hk).1
  have h0 := h.set' (j := 0) (y := (p0, x1)) (u := .string p0) encP_len hk (by decide) rfl
  have h1 := h0.set' (k := k) (x := (p0, x1)) (j := 1) (y := (p0, p1)) (u := .int .i64 p1) encP_len (List.getElem?_set_self hlt) (by decide) rfl
  rw [List.set_set] at h1
  exact h1
theorem setPr_kept (w : World) (g k : Nat) (p : Pr) : KeptBut (fun q => q = g) w (setPr w g k p) := ((KeptBut.refl (fun q => q = g) w).setCell (p := ⟨g, k * 2, none⟩) rfl _).setCell (p := ⟨g, k * 2 + 1, none⟩) rfl _
theorem OwnP.swap {w : World} {base g n cap i j : Nat} {l : List Pr} {x y : Pr} (h : OwnP w base g n cap l) (hi : l[i]? = some x) (hj : l[j]? = some y) : OwnP (setPr (setPr w g i y) g j x) base g n cap (swapAt l i j) := by
  rw [swapAt_of hi hj]
  obtain ⟨z, hz⟩ : ∃ z, (l.set i y)[j]? = some z := by
    have := (List.getElem?_eq_some_iff.1 hj).1
    exact ⟨(l.set i y)[j]'(by simpa using this), by simp [this]⟩
  exact (h.set hi y).set hz x
theorem swap_kept (w : World) (g i j : Nat) (x y : Pr) : KeptBut (fun q => q = g) w (setPr (setPr w g i y) g j x) := (setPr_kept w g i y).trans (setPr_kept _ g j x)

set_option maxHeartbeats 1000000 in
theorem swapRange_any (a b n m cap g : Nat) (l : List Pr) (c : Value) {w : World} {base : Nat} (h : OwnP w base g m cap l) (hm : m ≤ 1000000000) (ha : a + n ≤ m) (hb : b + n ≤ m) (hd : a + n ≤ b) :
    Calls Tryd.prog 120 #[.slice (some ⟨g, 0, none⟩) m cap, .int .i64 a, .int .i64 b, .int .i64 n, c] w fun e w' => e = .returned (.tuple #[]) ∧ KeptBut (fun q => q = g) w w' ∧ OwnP w' base g m cap (swapN l a b n) := by
  have hlen := hide h.len
  have H := hide h; clear h
  go_enter Tryd.func120, Tryd.ntmps120
  go_wp2
  go_loopw [10] (fun i wr => ∃ k : Nat, k ≤ n ∧ i = .int .i64 k ∧ KeptBut (fun q => q = g) w wr ∧ OwnP wr base g m cap (swapN l a b k)) (fun i _ => n - (intOf i).toNat)
  case atStart => exact ⟨0, by omega, rfl, KeptBut.refl _ _, H.out⟩
  case round =>
    obtain ⟨k, hk, rfl, hkb, hown⟩ := hrel
    by_cases hlt : k < n
    · have hl := swapN_len l a b k
      rw [← hlen.out] at hl
      obtain ⟨x, hx⟩ : ∃ x, (swapN l a b k)[a + k]? = some x := ⟨(swapN l a b k)[a + k]'(by omega), by simp [show a + k < (swapN l a b k).length by omega]⟩
      obtain ⟨y, hy⟩ : ∃ y, (swapN l a b k)[b + k]? = some y := ⟨(swapN l a b k)[b + k]'(by omega), by simp [show b + k < (swapN l a b k).length by omega]⟩
      obtain ⟨x0, x1, xz, xz', _⟩ := hown.at hx
      obtain ⟨y0, y1, yz, yz', _⟩ := hown.at hy
      have HS := hown.swap hx hy
      have HK := hkb.trans (swap_kept wr g (a + k) (b + k) x y)
      have HS := hide HS; have HK := hide HK
      have f1 : (0 : Int) ≤ (a : Int) + k ∧ (a : Int) + k < (m : Int) ∧ (0 : Int) ≤ (b : Int) + k ∧ (b : Int) + k < (m : Int) := by omega
      obtain ⟨f1, f2, f3, f4⟩ := f1
      have f5 : IntKind.i64.wrap ((a : Int) + k) = (a : Int) + k := IntWalk.i64_in _ (by omega)
      have f6 : IntKind.i64.wrap ((b : Int) + k) = (b : Int) + k := IntWalk.i64_in _ (by omega)
      have f7 : ((a : Int) + k).toNat = a + k := by omega
      have f8 : ((b : Int) + k).toNat = b + k := by omega
      clear hown hkb hx hy hl
      go_wp2
      go_region
      all_goals
        clear f5 f6 f7 f8
        go_wp2
        go_roundw
        case rel => exact ⟨k+1, by omega, by go_num, HK.out.drew, HS.out.drew⟩
        case measure => simp [intOf]; omega
    · go_wp2
      go_end0
      exact ⟨rfl, hkb, by rw [show n = k by omega]; exact hown⟩

theorem sink_lo {l : List Pr} {lo j : Nat} (h : j ≤ lo) : sink l lo j = l := by
  cases j with
  | zero => rfl
  | succ j =>
    unfold sink
    split
    · rw [if_neg (fun h' => by omega)]
    · rfl
theorem sink_stop {l : List Pr} {lo j : Nat} {x y : Pr} (hx : l[j + 1]? = some x) (hy : l[j]? = some y) (h : klt x y = false) : sink l lo (j + 1) = l := by
  unfold sink; rw [hx, hy]
  show (if _ then _ else _) = _
  rw [if_neg (fun h' => by rw [h] at h'; cases h'.2)]
theorem sink_go {l : List Pr} {lo j : Nat} {x y : Pr} (hx : l[j + 1]? = some x) (hy : l[j]? = some y) (hlo : lo < j + 1) (h : klt x y = true) : sink l lo (j + 1) = sink (swapAt l (j + 1) j) lo j := by
  conv => lhs; unfold sink
  rw [hx, hy]
  show (if _ then _ else _) = _
  rw [if_pos ⟨hlo, h⟩]
theorem get_some {l : List Pr} {i : Nat} (h : i < l.length) : ∃ x, l[i]? = some x := ⟨l[i], List.getElem?_eq_getElem h⟩
abbrev cmpV : Value := .func (.func 48) #[] #[]
set_option maxHeartbeats 2000000 in
theorem insertion_any (a b m cap g : Nat) (l : List Pr) {w : World} {base : Nat} (h : OwnP w base g m cap l) (hm : m ≤ 1000000000) (hab : a ≤ b) (hb : b ≤ m) :
    Calls Tryd.prog 86 #[.slice (some ⟨g, 0, none⟩) m cap, .int .i64 a, .int .i64 b, .func (.func 48) #[] #[]] w fun e w' => e = .returned (.tuple #[]) ∧ KeptBut (fun q => q = g) w w' ∧ OwnP w' base g m cap (sortSeg l a b) := by
  have hlen := hide h.len
  have H := hide h; clear h
  go_enter Tryd.func86, Tryd.ntmps86
  go_wp2
  go_loopw [8] (fun i wr => ∃ k : Nat, (a + 1 + k ≤ b ∨ k = 0) ∧ i = .int .i64 ((a : Int) + 1 + k) ∧ KeptBut (fun q => q = g) w wr ∧ OwnP wr base g m cap (insTo l a k)) (fun i _ => b + 1 - (intOf i).toNat)
  case atStart => exact ⟨0, .inr rfl, by go_num, KeptBut.refl _ _, H.out⟩
  case round =>
    obtain ⟨k, hk, rfl, hkb, hown⟩ := hrel
    by_cases hlt : a + 1 + k < b
    · have hl := insTo_len l a k
      rw [← hlen.out] at hl
      have hR : Hid (sink (insTo l a k) a (a + 1 + k) = insTo l a (k + 1)) := rfl
      have HL := hide hl
      generalize insTo l a k = cur0 at *
      generalize hRe : insTo l a (k + 1) = R at *
      have HRe := hide hRe
      clear hl hRe
      obtain ⟨wo, hwo⟩ : ∃ wo : World, wo = wr := ⟨wr, rfl⟩
      subst hwo
      have HKB := hide hkb
      have HOWN := hide hown
      clear hkb hown
      have f0 : decide ((a : Int) + 1 + k < (b : Int)) = true := by simp; omega
      go_wp2
      clear f0
      go_loopw [9] (fun i wr => ∃ j : Nat, ∃ cur, j < m ∧ i = .int .i64 j ∧ Hid (sink cur a j = R) ∧ Hid (cur.length = m) ∧ KeptBut (fun q => q = g) w wr ∧ OwnP wr base g m cap cur) (fun i _ => (intOf i).toNat)
      case atStart => exact ⟨a + 1 + k, cur0, by omega, by go_num, hR, HL, HKB.out, HOWN.out⟩
      case round =>
        obtain ⟨j, cur, hj, rfl, hS, hC, hkb, hown⟩ := hrel
        by_cases hja : a < j
        · obtain ⟨j', rfl⟩ : ∃ j', j = j' + 1 := ⟨j - 1, by omega⟩
          obtain ⟨x, hx⟩ := get_some (l := cur) (i := j' + 1) (by rw [hC.out]; omega)
          obtain ⟨y, hy⟩ := get_some (l := cur) (i := j') (by rw [hC.out]; omega)
          obtain ⟨x0, x1, xz, xz', _⟩ := hown.at hx
          obtain ⟨y0, y1, yz, yz', _⟩ := hown.at hy
          have HX := hide hx
          have HY := hide hy
          have HOW := hide hown
          have HKB2 := hide hkb
          clear hx hy hown hkb
          have f1 : (0 : Int) ≤ (j' : Int) + 1 ∧ (j' : Int) + 1 < (m : Int) ∧ (0 : Int) ≤ (j' : Int) ∧ (j' : Int) < (m : Int) := by omega
          obtain ⟨f1, f2, f3, f4⟩ := f1
          have f5 : decide ((a : Int) < (j' : Int) + 1) = true := by simp; omega
          have f6 : IntKind.i64.wrap (j' : Int) = (j' : Int) := IntWalk.i64_in _ (by omega)
          have f7 : ((j' : Int) + 1).toNat = j' + 1 := by omega
          have f8 := cmpI_neg x y
          have hsk : Hid (klt x y = true → sink (swapAt cur (j' + 1) j') a j' = R) := fun hk => by rw [← sink_go HX.out HY.out hja hk]; exact hS.out
          have hss : Hid (klt x y = false → cur = R) := fun hk => by rw [← hS.out, sink_stop HX.out HY.out hk]
          cases hk2 : klt x y
          · rw [hk2] at f8
            have HE := hide (hss.out hk2)
            clear hk2 hsk hss
            go_wp2
            go_region_held3 (fun w' => w'.cell? ⟨g, (j' + 1) * 2, none⟩ = some (.string x.1) ∧ w'.cell? ⟨g, (j' + 1) * 2 + 1, none⟩ = some (.int .i64 x.2) ∧ w'.cell? ⟨g, j' * 2, none⟩ = some (.string y.1) ∧ w'.cell? ⟨g, j' * 2 + 1, none⟩ = some (.int .i64 y.2) ∧ Below wr.heap.size wr w')
              (first | (go_split_ands; exact ⟨by simpa using x0, by simpa using x1, by simpa using y0, by simpa using y1, (Below.refl _ _).drew⟩) | (go_split_ands; exact ⟨cell_later hb1 (by assumption), cell_later hb1 (by assumption), cell_later hb1 (by assumption), cell_later hb1 (by assumption), Below.trans (by assumption) (hb1.mono (Below.size (by assumption)))⟩))
              ((go_at_call 48; refine (sortCmp x y _).mono ?_; rintro e w1 ⟨rfl, hb1⟩))
            all_goals
              have hbl : Below wr.heap.size wr w1 := And.right (And.right (And.right (And.right (by assumption))))
              have ho1 := HOW.out.later hbl
              have hk1 := HKB2.out.trans (KeptBut.of_below (S := fun q => q = g) hbl (Nat.le_refl _))
              have HE1 := HE.out
              subst HE1
              clear f5 f6 f7 f8 hS
              go_wp2
              go_roundw
              case rel => exact ⟨k+1, by omega, by go_num, hk1, by rw [HRe.out]; exact ho1⟩
              case measure => simp [intOf]; omega
          · rw [hk2] at f8
            have HE := hide (hsk.out hk2)
            clear hk2 hsk hss
            go_wp2
            go_region_held3 (fun w' => w'.cell? ⟨g, (j' + 1) * 2, none⟩ = some (.string x.1) ∧ w'.cell? ⟨g, (j' + 1) * 2 + 1, none⟩ = some (.int .i64 x.2) ∧ w'.cell? ⟨g, j' * 2, none⟩ = some (.string y.1) ∧ w'.cell? ⟨g, j' * 2 + 1, none⟩ = some (.int .i64 y.2) ∧ Below wr.heap.size wr w')
              (first | (go_split_ands; exact ⟨by simpa using x0, by simpa using x1, by simpa using y0, by simpa using y1, (Below.refl _ _).drew⟩) | (go_split_ands; exact ⟨cell_later hb1 (by assumption), cell_later hb1 (by assumption), cell_later hb1 (by assumption), cell_later hb1 (by assumption), Below.trans (by assumption) (hb1.mono (Below.size (by assumption)))⟩))
              ((go_at_call 48; refine (sortCmp x y _).mono ?_; rintro e w1 ⟨rfl, hb1⟩))
            all_goals
              have hbl : Below wr.heap.size wr w1 := And.right (And.right (And.right (And.right (by assumption))))
              have ho1 := HOW.out.later hbl
              have hk1 := HKB2.out.trans (KeptBut.of_below (S := fun q => q = g) hbl (Nat.le_refl _))
              obtain ⟨p0, p1, pz, pz', _⟩ := OwnP.at ho1 HX.out
              obtain ⟨q0, q1, qz, qz', _⟩ := OwnP.at ho1 HY.out
              have HS := hide (OwnP.swap ho1 HX.out HY.out)
              have HK := hide (hk1.trans (swap_kept w1 g (j' + 1) j' x y))
              have HCL := hide (show (swapAt cur (j' + 1) j').length = m by rw [swapAt_len]; exact hC.out)
              clear ho1 hk1 hbl x0 x1 y0 y1 xz xz' yz yz' f8
              go_wp2
              go_region
              all_goals
                clear f5 f6 f7
                go_wp2
                go_roundw
                case rel => exact ⟨j', _, by omega, by go_num, HE, HCL, HK.out.drew, HS.out.drew⟩
                case measure => (simp [intOf]; try omega)
        · have f5 : decide ((a : Int) < (j : Int)) = false := by simp; omega
          have f5' : decide (a < j) = false := by simp; omega
          have HE : Hid (cur = R) := by show cur = R; rw [← hS.out, sink_lo (by omega)]
          go_wp2
          go_quiet (fail)
          have HE1 := HE.out
          subst HE1
          clear hS
          go_wp2
          go_roundw
          case rel => exact ⟨k+1, by omega, by go_num, hkb.drewN _, by rw [HRe.out]; exact hown.drewN _⟩
          case measure => simp [intOf]; omega
    · go_wp2
      go_end0
      refine ⟨rfl, hkb, ?_⟩
      rcases hk with hk | rfl
      · rw [show b = a + 1 + k by omega, ← insTo_at l a k (by rw [← hlen.out]; omega)]; exact hown
      · rw [sortSeg_small l (by omega) hab (by rw [← hlen.out]; omega)]; exact hown
end Go.Proofs.YtjkggijkccbcpaaDoor
