/- FolderSays: the closed fact. -/
import Derived.Test.YtkodbldfoldbjaaDoorFolder4
set_option linter.unusedSimpArgs false
set_option linter.unusedVariables false
namespace Go.Proofs.YtkodbldfoldbjaaDoor
open Go.RowKit

theorem heap_old2 {w : World} {b : Nat} {x : Obj} (o p : Obj) (h : w.heap[b]? = some x) : ((w.alloc o).alloc p).heap[b]? = some x := heap_old p (heap_old o h)
theorem text_a5 : tx (textP [(⟨#[97]⟩, 5)]) = ⟨#[49, 58, 97, 32, 53, 10]⟩ := by
  unfold textP lineP
  rw [List.flatMap_cons, List.flatMap_nil, List.append_nil]
  rw [show ((⟨#[97]⟩ : ByteArray), (5 : Int)).1.size = 1 from rfl]
  rw [Lib.itoa_nonneg 1, Lib.decDigits_one (by decide), show ((⟨#[97]⟩ : ByteArray), (5 : Int)).2 = ((5 : Nat) : Int) from rfl, Lib.itoa_nonneg 5, Lib.decDigits_one (by decide)]
  rfl
set_option maxRecDepth 100000 in
set_option maxHeartbeats 2000000 in
theorem foldings_any (w : World) (hg : GW w) :
    Calls Tryd.prog 39 #[] w fun e w' => e = .returned (.bool true) ∧ Below w.heap.size w w' := by
  have hb0 : Below w.heap.size w (((w.alloc (.cells #[.string ⟨#[97]⟩, .int .i64 2] 47)).alloc (.cells #[.string ⟨#[97]⟩, .int .i64 3] 47)).alloc (.cells #[.slice (some ⟨w.heap.size, 0, none⟩) 1 1, .slice (some ⟨w.heap.size + 1, 0, none⟩) 1 1] 43)) :=
    (((Below.refl _ _).alloc (Nat.le_refl _) _).alloc (by simp) _).alloc (by simp; omega) _
  have hrows : Sl 1 encRow (((w.alloc (.cells #[.string ⟨#[97]⟩, .int .i64 2] 47)).alloc (.cells #[.string ⟨#[97]⟩, .int .i64 3] 47)).alloc (.cells #[.slice (some ⟨w.heap.size, 0, none⟩) 1 1, .slice (some ⟨w.heap.size + 1, 0, none⟩) 1 1] 43)) (some ⟨w.heap.size + 1 + 1, 0, none⟩) [(some ⟨w.heap.size, 0, none⟩, 1, [(⟨#[97]⟩, 2)]), (some ⟨w.heap.size + 1, 0, none⟩, 1, [(⟨#[97]⟩, 3)])] :=
    Sl.lit encRow_len (heap_at (by simp)) rfl
  have hr1 : Sl 2 encP (((w.alloc (.cells #[.string ⟨#[97]⟩, .int .i64 2] 47)).alloc (.cells #[.string ⟨#[97]⟩, .int .i64 3] 47)).alloc (.cells #[.slice (some ⟨w.heap.size, 0, none⟩) 1 1, .slice (some ⟨w.heap.size + 1, 0, none⟩) 1 1] 43)) (some ⟨w.heap.size, 0, none⟩) [(⟨#[97]⟩, 2)] :=
    Sl.lit encP_len (heap_old2 _ _ (heap_new w _)) rfl
  have hr2 : Sl 2 encP (((w.alloc (.cells #[.string ⟨#[97]⟩, .int .i64 2] 47)).alloc (.cells #[.string ⟨#[97]⟩, .int .i64 3] 47)).alloc (.cells #[.slice (some ⟨w.heap.size, 0, none⟩) 1 1, .slice (some ⟨w.heap.size + 1, 0, none⟩) 1 1] 43)) (some ⟨w.heap.size + 1, 0, none⟩) [(⟨#[97]⟩, 3)] :=
    Sl.lit encP_len (heap_old _ (heap_at (by simp))) rfl
  have hG : groups 1 [((⟨#[97]⟩ : ByteArray), (2 : Int)), (⟨#[97]⟩, 3)] = [(⟨#[97]⟩, 5)] := by decide +kernel
  have hS : srt (rowsL [(some ⟨w.heap.size, 0, none⟩, 1, [((⟨#[97]⟩ : ByteArray), (2 : Int))]), (some ⟨w.heap.size + 1, 0, none⟩, 1, [(⟨#[97]⟩, 3)])]).flatten = [(⟨#[97]⟩, 2), (⟨#[97]⟩, 3)] := by
    show srt [((⟨#[97]⟩ : ByteArray), (2 : Int)), (⟨#[97]⟩, 3)] = _
    decide +kernel
  have HN := hide (New_run 1 (some ⟨w.heap.size + 1 + 1, 0, none⟩) 2 _ _ (by decide) (by simp) (by simp [rowsL]) (by
    intro l hl
    simp [rowsL] at hl
    rcases hl with rfl | rfl <;> exact List.pairwise_singleton _ _) hrows (by
    intro r hr
    simp at hr
    rcases hr with rfl | rfl
    · exact hr1
    · exact hr2))
  rw [hS] at HN
  have HG := hide hg
  have HB := hide hb0
  have HGR := hide hG
  clear hb0 hrows hr1 hr2 hG hS hg
  go_enter Tryd.func39, Tryd.ntmps39
  go_wp2_with fail
  refine HN.out.mono ?_
  rintro e w1 ⟨⟨g, rfl, hv⟩, b1⟩
  clear HN
  generalize ((w.alloc (.cells #[.string ⟨#[97]⟩, .int .i64 2] 47)).alloc (.cells #[.string ⟨#[97]⟩, .int .i64 3] 47)).alloc (.cells #[.slice (some ⟨w.heap.size, 0, none⟩) 1 1, .slice (some ⟨w.heap.size + 1, 0, none⟩) 1 1] 43) = W at *
  have HWW := hide b1.size
  have HB0 := HB
  replace HB := hide (HB.out.trans (b1.mono HB.out.size))
  have HV := hide hv
  clear b1 hv
  have HSM := hide fun w => same_refl 0 w (Int.le_refl _)
  rw [errV_zero] at HSM
  go_wp2_with fail
  refine (HSM.out _).mono ?_
  rintro e w1' ⟨rfl, rfl⟩
  have HST := hide (Step_run 1 w1 HWW.out HV.out (by decide) (by decide))
  have hmin : decide (min (0 + (1 : Int).toNat) (groups 1 [((⟨#[97]⟩ : ByteArray), (2 : Int)), (⟨#[97]⟩, 3)]).length = (groups 1 [((⟨#[97]⟩ : ByteArray), (2 : Int)), (⟨#[97]⟩, 3)]).length) = true := by rw [HGR.out]; decide
  rw [hmin] at HST
  clear hmin
  go_wp2_with fail
  refine HST.out.mono ?_
  rintro e w2 ⟨⟨rfl, hv2⟩, k2⟩
  have hb2 : Below w.heap.size w1 w2 := k2.below (fun q hq => Nat.le_trans HB0.out.size hq.1) HB.out.size
  have HBB := hide (HB.out.trans hb2)
  have HO := hide (Out_run w2 (HG.out.later HBB.out (Nat.le_refl _)) hv2 ⟨by decide, by
    intro p hp
    simp at hp
    rcases hp with rfl | rfl <;> exact ⟨by decide, by decide, by decide⟩⟩)
  have htk : tx (textP ((groups 1 [((⟨#[97]⟩ : ByteArray), (2 : Int)), (⟨#[97]⟩, 3)]).take (min (0 + (1 : Int).toNat) (groups 1 [((⟨#[97]⟩ : ByteArray), (2 : Int)), (⟨#[97]⟩, 3)]).length))) = ⟨#[49, 58, 97, 32, 53, 10]⟩ := by
    rw [HGR.out]
    exact text_a5
  rw [htk] at HO
  clear htk hb2 hv2 k2 HST HV
  go_wp2_with fail
  refine HO.out.mono ?_
  rintro e w3 ⟨rfl, b3⟩
  have HB3 := hide (HBB.out.trans (b3.mono HBB.out.size))
  clear b3 HO
  go_wp2
  go_ret
  exact ⟨rfl, HB3.out⟩
end Go.Proofs.YtkodbldfoldbjaaDoor
