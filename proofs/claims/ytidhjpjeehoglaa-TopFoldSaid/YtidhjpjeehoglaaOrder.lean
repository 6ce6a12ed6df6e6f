/- Package order: Rises; slices.Clone at pairs; the reference Sorted. -/
import Derived.Test.YtidhjpjeehoglaaSort
import Derived.Test.YtidhjpjeehoglaaPairs
import Derived.Test.YtidhjpjeehoglaaApp
namespace Go.Proofs.Ytidhjpjeehoglaa
open Go.RowKit

theorem infoPr : (Try.prog.info? 65).map (fun i => (i.zero, i.size, i.bytes)) = some (some (.agg #[.string ⟨#[]⟩, .int .i64 0]), 2, 24) := by kernel_rfl
theorem risesCmp (a b : Pr) (w : World) :
    Calls Try.prog 43 #[.agg #[.string a.1, .int .i64 a.2], .agg #[.string b.1, .int .i64 b.2]] w fun e w' => e = .returned (.int .i64 (cmpI a.1 b.1)) ∧ Below w.heap.size w w' := by
  go_enter Try.func43, Try.ntmps43
  go_wp2_with fail
  refine (Compare_s _ _ _).mono ?_
  rintro e w1 ⟨rfl, rfl⟩
  go_wp2
  go_ret
  exact ⟨rfl, ((Below.refl _ _).alloc (Nat.le_refl _) _).alloc (by simp) _⟩
/-- from place k on the keys rise -/
theorem upTo_true {l : List Pr} (h : ∀ (i : Nat) x y, l[i]? = some x → l[i + 1]? = some y → klt y x = false) : rises l = true := by
  unfold rises upTo
  rw [List.all_eq_true]
  intro i _
  split
  · rename_i x y hx hy
    have := h i x y hx hy
    unfold klt at this
    rw [this]; rfl
  · rfl
theorem upTo_bad {l : List Pr} {i : Nat} {x y : Pr} (hx : l[i]? = some x) (hy : l[i + 1]? = some y) (h : klt y x = true) : rises l = false := by
  have hlt := (List.getElem?_eq_some_iff.1 hx).1
  refine upTo_false (k := i + 1) ?_ (by omega)
  rw [upTo_succ, hx, hy]
  unfold klt at h
  show (_ && !_) = false
  rw [h]; simp
set_option maxHeartbeats 1000000 in
theorem IsSorted_any (ao : Option Addr) (cap : Nat) (l : List Pr) (w : World) (hl : l.length ≤ 1000000000) (hs : Sl 2 encP w ao l) :
    Calls Try.prog 42 #[.slice ao l.length cap, .func (.func 43) #[] #[]] w fun e w' => e = .returned (.bool (rises l)) ∧ Below w.heap.size w w' := by
  go_enter Try.func42, Try.ntmps42
  go_wp2
  go_loopw [5] (fun p wr => ∃ k : Int, p = .int .i64 k ∧ -1 ≤ k ∧ k + 1 ≤ l.length ∧ Hid (∀ (i : Nat) x y, k ≤ (i : Int) → l[i]? = some x → l[i + 1]? = some y → klt y x = false) ∧ Below w.heap.size w wr) (fun p _ => (intOf p + 1).toNat)
  case atStart => exact ⟨(l.length : Int) - 1, by go_num, by omega, by omega, fun i x y hi hx hy => by have := (List.getElem?_eq_some_iff.1 hy).1; omega, Below.refl _ _⟩
  case round =>
    obtain ⟨k, rfl, hk0, hk1, HK, hbl⟩ := hrel
    by_cases hlt : 0 < k
    · obtain ⟨j, rfl⟩ : ∃ j : Nat, k = (j : Int) + 1 := ⟨(k - 1).toNat, by omega⟩
      obtain ⟨b, off, x0, x1, rfl, hbw, hx, c0, c1⟩ := (hs.later hbl (Nat.le_refl _)).pair (k := j + 1) (by omega)
      obtain ⟨_, _, y0, y1, e1, _, hy, d0, d1⟩ := (hs.later hbl (Nat.le_refl _)).pair (k := j) (by omega)
      cases e1
      have HX := hide hx
      have HY := hide hy
      have f1 : (0 : Int) ≤ (j : Int) + 1 ∧ (j : Int) + 1 < (l.length : Int) ∧ (0 : Int) ≤ (j : Int) ∧ (j : Int) < (l.length : Int) := by omega
      obtain ⟨f1, f2, f3, f4⟩ := f1
      have f6 : IntKind.i64.wrap (j : Int) = (j : Int) := IntWalk.i64_in _ (by omega)
      have f7 : ((j : Int) + 1).toNat = j + 1 := by omega
      have f8 := cmpI_neg (x0, x1) (y0, y1)
      have hgood : Hid (klt (x0, x1) (y0, y1) = false → ∀ (i : Nat) x y, (j : Int) ≤ (i : Int) → l[i]? = some x → l[i + 1]? = some y → klt y x = false) := fun h i x y hi gx gy => by
        by_cases e : i = j
        · rw [e, HY.out] at gx; rw [e, HX.out] at gy; cases gx; cases gy; exact h
        · exact HK.out i x y (by omega) gx gy
      have hbad : Hid (klt (x0, x1) (y0, y1) = true → rises l = false) := fun h => upTo_bad HY.out HX.out h
      clear hx hy HK
      cases hk2 : klt (x0, x1) (y0, y1)
      · rw [hk2] at f8
        have HG := hide (hgood.out hk2)
        clear hk2 hgood hbad
        go_wp2
        go_region_held3 (fun w' => w'.cell? ⟨b, off + (j + 1) * 2, none⟩ = some (.string x0) ∧ w'.cell? ⟨b, off + (j + 1) * 2 + 1, none⟩ = some (.int .i64 x1) ∧ w'.cell? ⟨b, off + j * 2, none⟩ = some (.string y0) ∧ w'.cell? ⟨b, off + j * 2 + 1, none⟩ = some (.int .i64 y1) ∧ Below wr.heap.size wr w')
          (first | (go_split_ands; exact ⟨by simpa using c0, by simpa using c1, by simpa using d0, by simpa using d1, (Below.refl _ _).drew⟩) | (go_split_ands; exact ⟨cell_later hb1 (by assumption), cell_later hb1 (by assumption), cell_later hb1 (by assumption), cell_later hb1 (by assumption), Below.trans (by assumption) (hb1.mono (Below.size (by assumption)))⟩))
          ((go_at_call 43; refine (risesCmp (x0, x1) (y0, y1) _).mono ?_; rintro e w1 ⟨rfl, hb1⟩))
        all_goals
          have hbl1 : Below wr.heap.size wr w1 := And.right (And.right (And.right (And.right (by assumption))))
          have hbl2 := hbl.trans (hbl1.mono hbl.size)
          clear f6 f7
          go_wp2
          go_roundw
          case rel => exact ⟨(j : Int), by go_num, by omega, by omega, HG, hbl2⟩
          case measure => (simp [intOf]; try omega)
      · rw [hk2] at f8
        have HG := hide (hbad.out hk2)
        clear hk2 hgood hbad
        go_wp2
        go_region_held3 (fun w' => w'.cell? ⟨b, off + (j + 1) * 2, none⟩ = some (.string x0) ∧ w'.cell? ⟨b, off + (j + 1) * 2 + 1, none⟩ = some (.int .i64 x1) ∧ w'.cell? ⟨b, off + j * 2, none⟩ = some (.string y0) ∧ w'.cell? ⟨b, off + j * 2 + 1, none⟩ = some (.int .i64 y1) ∧ Below wr.heap.size wr w')
          (first | (go_split_ands; exact ⟨by simpa using c0, by simpa using c1, by simpa using d0, by simpa using d1, (Below.refl _ _).drew⟩) | (go_split_ands; exact ⟨cell_later hb1 (by assumption), cell_later hb1 (by assumption), cell_later hb1 (by assumption), cell_later hb1 (by assumption), Below.trans (by assumption) (hb1.mono (Below.size (by assumption)))⟩))
          ((go_at_call 43; refine (risesCmp (x0, x1) (y0, y1) _).mono ?_; rintro e w1 ⟨rfl, hb1⟩))
        all_goals
          have hbl1 : Below wr.heap.size wr w1 := And.right (And.right (And.right (And.right (by assumption))))
          have hbl2 := hbl.trans (hbl1.mono hbl.size)
          clear f6 f7
          go_wp2
          go_ret
          exact ⟨ret_b HG.out, hbl2⟩
    · have HR : Hid (rises l = true) := upTo_true fun i x y hx hy => HK.out i x y (by omega) hx hy
      go_wp2
      go_ret
      exact ⟨ret_b HR.out, hbl⟩
theorem orderRises_any (ao : Option Addr) (cap : Nat) (l : List Pr) (w : World) (hl : l.length ≤ 1000000000) (hs : Sl 2 encP w ao l) :
    Calls Try.prog 24 #[.slice ao l.length cap] w fun e w' => e = .returned (.bool (rises l)) ∧ Below w.heap.size w w' := by
  go_enter Try.func24, Try.ntmps24
  go_wp2_with fail
  refine (IsSorted_any ao cap l w hl hs).mono ?_
  rintro e w1 ⟨rfl, b1⟩
  go_wp2
  go_ret
  exact ⟨rfl, b1⟩
end Go.Proofs.Ytidhjpjeehoglaa
