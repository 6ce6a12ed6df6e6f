/- 'TopKey' returns true for every input and leaves its arguments as they were; no condition. -/
import Derived.Test.YtllibbdgnjcchabPairSum
import Derived.Test.YtllibbdgnjcchabOpen
namespace Go.Proofs.Ytllibbdgnjcchab
open Go.ChangeShapes Go.WideShapes Go.ChangeAt Go.RowKit
open Go.ChangeMaps (open_string shut_string)

theorem sliceB_one (s : ByteArray) : sliceB s 1 = 0 := by unfold sliceB; simp
set_option maxRecDepth 100000 in
set_option maxHeartbeats 1000000 in
theorem TopKey_walk (s t : ByteArray) (many : Int) (w : World) (hs : s.size ≤ maxLen) (ht : t.size ≤ maxLen) :
    Calls Try.prog 3 #[.string s, .string t, .int .i64 many] w fun e w' => e = .returned (.bool true) ∧ w = w' := by
  have hone := sliceB_one
  go_enter Try.func3, Try.ntmps3
  go_wp2_with fail
  refine (Slice_any _ _ _ (by decide) (by decide)).mono ?_
  rintro e w1 ⟨rfl, rfl⟩
  rw [hone]
  have hnil : sumB (⟨#[]⟩ : ByteArray).data.toList = 2166136261 := rfl
  go_wp2_with fail
  refine (Sum_any _ _ (by decide)).mono ?_
  rintro e w1 ⟨rfl, rfl⟩
  rw [hnil]
  clear hnil hone
  unfold maxLen at *
  by_cases hA : s.size ≤ 100 ∧ t.size ≤ 100 ∧ 1 ≤ many ∧ many ≤ 1000
  · obtain ⟨h1, h2, h3, h4⟩ := hA
    have e1 : decide (100 < (s.size : Int)) = false := by simp; omega
    have e2 : decide (100 < (t.size : Int)) = false := by simp; omega
    have e3 : decide (many < 1) = false := by simp; omega
    have e4 : decide (1000 < many) = false := by simp; omega
    have hb := sliceB_bd s many
    have hmx : max many 1 = many := by omega
    rw [hmx] at hb
    clear hmx
    obtain ⟨b1, b2⟩ := hb
    have b3 : decide (0 ≤ sliceB s many) = true := by simpa using b1
    have b4 : decide (sliceB s many < many) = true := by simpa using b2
    have HO := hide (sliceB_one s)
    go_wp2_with fail
    refine (Slice_any s many _ (by unfold maxLen; omega) h4).mono ?_
    rintro e w1 ⟨rfl, rfl⟩
    by_cases hst : s = t
    · subst hst
      have hkk : (s.toList != s.toList) = false := by simp
      go_wp2_with fail
      refine (Slice_any s many _ (by unfold maxLen; omega) h4).mono ?_
      rintro e w1 ⟨rfl, rfl⟩
      go_wp2_with fail
      refine (Slice_any s 1 _ (by unfold maxLen; omega) (by decide)).mono ?_
      rintro e w1 ⟨rfl, rfl⟩
      rw [HO.out]
      go_wp2_with fail
      refine (Sum_any s _ (by unfold maxLen; omega)).mono ?_
      rintro e w1 ⟨rfl, rfl⟩
      go_wp2_with fail
      refine (Sum_any s _ (by unfold maxLen; omega)).mono ?_
      rintro e w1 ⟨rfl, rfl⟩
      go_wp2
      go_ret
      exact ⟨by simp, rfl⟩
    · have hkk : (s.toList != t.toList) = true := by have := bneq hst; simp [bne, this]
      go_wp2_with fail
      refine (Slice_any s 1 _ (by unfold maxLen; omega) (by decide)).mono ?_
      rintro e w1 ⟨rfl, rfl⟩
      rw [HO.out]
      go_wp2_with fail
      refine (Sum_any s _ (by unfold maxLen; omega)).mono ?_
      rintro e w1 ⟨rfl, rfl⟩
      go_wp2_with fail
      refine (Sum_any t _ (by unfold maxLen; omega)).mono ?_
      rintro e w1 ⟨rfl, rfl⟩
      go_wp2
      all_goals first
      | (exact absurd (tl_inj (by assumption)) hst)
      | (go_ret; exact ⟨by first | rfl | (simp; assumption), rfl⟩)
  · go_wp2
    all_goals first
    | (go_ret; exact ⟨rfl, rfl⟩)
    | (exfalso; omega)
set_option maxRecDepth 100000 in
theorem TopKey_lifted (os : Os) (started : os.Started) (H : Type) (enc : TypeId × Value → H) :
    ReturnsInHanded {} Try.checked os 3 .any (Rows.topKeySpec.pre6 enc Try.prog Try.f3 Rows.topKeyRow.domain false) (Rows.topKeySpec.post enc Try.prog Try.f3 false true false false) := by
  refine returnsInHanded_of_change (C := Try.checked) own started (by kernel_rfl) Try.func3
    (ChangeSpec.witness6 (enc := enc) (C := Try.checked) false ⟨#[], #[.string ⟨#[]⟩, .string ⟨#[]⟩, .int .i64 0], []⟩ 8 (by kernel_rfl) (by kernel_rfl) (by kernel_rfl) (by kernel_rfl)) ?_
  intro W base args ds gs before hval0 hW hcnd _
  have hval : ∀ (j : Nat) t v, Try.f3.params[j]? = some t → args[j]? = some v → Value.okWide Try.prog W .any base t v := hval0
  have hW' := hW
  obtain ⟨p, q, hA0, hV, rfl, hfz, hnd⟩ := hW
  have hA : DataW.TrodAll enc Try.prog W 0 (fun _ => true) true Try.f3.params.toList args.toList ds p := hA0
  rw [Try.params3] at hA hval
  obtain ⟨v0, vs0, d0, ds0, p0, q0, hargs, rfl, rfl, h0, r0⟩ := trodAll_cons hA
  obtain ⟨v1, vs1, d1, ds1, p1, q1, rfl, rfl, rfl, h1, r1⟩ := trodAll_cons r0
  obtain ⟨v2, vs2, d2, ds2, p2, q2, rfl, rfl, rfl, h2, r2⟩ := trodAll_cons r1
  obtain ⟨rfl, rfl, rfl⟩ := trodAll_nil r2
  obtain rfl : args = #[v0, v1, v2] := by cases args; simp_all
  obtain ⟨rfl, rfl⟩ := trodVars_none hV
  have lt0 : ∀ x ∈ p0, x.block < W.heap.size := by obtain ⟨m, hm⟩ := h0; exact DataW.trod_lt m _ _ _ hm
  have k0 := hval 0 9 v0 rfl rfl
  have g0 := h0
  have lt1 : ∀ x ∈ p1, x.block < W.heap.size := by obtain ⟨m, hm⟩ := h1; exact DataW.trod_lt m _ _ _ hm
  have k1 := hval 1 9 v1 rfl rfl
  have g1 := h1
  have lt2 : ∀ x ∈ p2, x.block < W.heap.size := by obtain ⟨m, hm⟩ := h2; exact DataW.trod_lt m _ _ _ hm
  have k2 := hval 2 3 v2 rfl rfl
  have g2 := h2
  clear hA0 hval0
  obtain ⟨s, rfl, rfl, rfl, hs⟩ := open_string Try.underlying9 k0 h0
  obtain ⟨t, rfl, rfl, rfl, ht⟩ := open_string Try.underlying9 k1 h1
  obtain ⟨many, rfl, rfl, rfl, _⟩ := open_int Try.underlying3 k2 h2
  refine (TopKey_walk s t many W hs ht).mono fun e W' ⟨he, hw⟩ => ?_
  have bel : Below W.heap.size W W' := by subst hw; exact Below.refl _ _
  subst he
  exact ⟨_, rfl, _, _, _, [], _, [], hW', trodAll_mk1 (shut_bool Try.underlying4 _), (trodAll_cons_mk (Below.trod laidOut (by kernel_rfl) (of_decide_eq_true (by kernel_rfl)) g0 bel lt0) (trodAll_cons_mk (Below.trod laidOut (by kernel_rfl) (of_decide_eq_true (by kernel_rfl)) g1 bel lt1) (trodAll_cons_mk (Below.trod laidOut (by kernel_rfl) (of_decide_eq_true (by kernel_rfl)) g2 bel lt2) trodAll_mk0))), rfl, bel.frame _, fun h => by cases h⟩

theorem TopKey_holds : Rows.TopKeySaid :=
  OpenClaim.holds_of_wide 3 Try.f3 rfl rfl rfl rfl rfl rfl rfl ⟨rfl, rfl, rfl, rfl, rfl⟩ rfl rfl rfl rfl rfl (by kernel_rfl) Try.func3 (by kernel_rfl)
    (of_decide_eq_true (by kernel_rfl)) (by unfold Func.isWrapper; first | (rw [if_pos (by decide +kernel)]; kernel_rfl) | (rw [if_neg (by decide +kernel)]; exact ⟨rfl, rfl⟩))
    (fun os started H enc _ => TopKey_lifted os started H enc)
#print axioms TopKey_holds
end Go.Proofs.Ytllibbdgnjcchab
