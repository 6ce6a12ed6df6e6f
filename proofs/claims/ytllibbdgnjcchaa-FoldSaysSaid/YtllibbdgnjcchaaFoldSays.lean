/- 'FoldSays' returns true for every input and leaves its arguments as they were; no condition. -/
import Derived.Test.YtllibbdgnjcchaaRefFold
import Derived.Test.YtllibbdgnjcchaaOpen
namespace Go.Proofs.Ytllibbdgnjcchaa
open Go.ChangeShapes Go.WideShapes Go.ChangeAt Go.RowKit

theorem folds_any (w : World) : Calls Try.prog 15 #[] w fun e w' => e = .returned (.bool true) ∧ Below w.heap.size w w' := by
  go_enter Try.func15, Try.ntmps15
  go_wp2_with fail
  refine (Groups_any 1 (some ⟨w.heap.size, 0, none⟩) 2 [(⟨#[97]⟩, 2), (⟨#[97]⟩, 3)] _ (by decide) ?_).mono ?_
  · exact Sl.lit (fun _ => rfl) (heap_new _ _) rfl
  · rintro e w1 ⟨v, rfl, hown, hb1⟩
    have hg : groups 1 [((⟨#[97]⟩ : ByteArray), (2 : Int)), (⟨#[97]⟩, 3)] = [(⟨#[97]⟩, 5)] := by decide +kernel
    rw [hg] at hown
    obtain ⟨g, cap, rfl, hgb, hgw, _, _⟩ := hown.addr (by decide)
    obtain ⟨_, _, _, _, e1, _, e2, d0, d1⟩ := (hown.sl encP_len).pair (k := 0) (by decide)
    cases e1
    cases e2
    simp only [Nat.zero_add, Nat.zero_mul] at d0 d1
    go_wp2
    go_ret
    exact ⟨rfl, ((Below.refl _ _).alloc (Nat.le_refl _) _).trans (hb1.mono (by simp))⟩

theorem lightPairs_len {l : List Pr} {m : Int} (h : lightPairs l m = true) : (l.length : Int) ≤ m := by
  simp only [lightPairs, Bool.and_eq_true, decide_eq_true_eq] at h; exact h.1

set_option maxRecDepth 100000 in
set_option maxHeartbeats 1000000 in
theorem FoldSays_walk (k a b : Int) (ao : Option Addr) (cap : Nat) (l : List Pr) (w : World) (hl : l.length ≤ maxLen) (hs : Sl 2 encP w ao l) :
    Calls Try.prog 4 #[.int .i64 k, .int .i64 a, .int .i64 b, .slice ao l.length cap] w fun e w' => e = .returned (.bool true) ∧ Below w.heap.size w w' := by
  cases hlp : lightPairs l 60
  · go_enter Try.func4, Try.ntmps4
    go_wp2_with fail
    refine (folds_any _).mono ?_
    rintro e w0 ⟨rfl, hb0⟩
    go_wp2_with fail
    refine (LightPairs_any _ _ l _ _ hl (hs.later hb0 (Nat.le_refl _))).mono ?_
    rintro e w1 ⟨rfl, rfl⟩
    rw [hlp]
    go_wp2
    go_ret
    exact ⟨rfl, hb0⟩
  · have hl60 := lightPairs_len hlp
    go_enter Try.func4, Try.ntmps4
    go_wp2_with fail
    refine (folds_any _).mono ?_
    rintro e w0 ⟨rfl, hb0⟩
    go_wp2_with fail
    refine (LightPairs_any _ _ l _ _ hl (hs.later hb0 (Nat.le_refl _))).mono ?_
    rintro e w1 ⟨rfl, rfl⟩
    rw [hlp]
    clear hlp
    by_cases hk : 1 ≤ k ∧ k ≤ 4
    · obtain ⟨hk1, hk2⟩ := hk
      have e1 : decide (k < 1) = false := by simp; omega
      have e2 : decide (4 < k) = false := by simp; omega
      have hf : kindFault k = 0 := by unfold kindFault; rw [if_neg (by omega)]
      have Hf := hide hf; clear hf
      go_wp2_with fail
      refine (foldCheck_any _ _).mono ?_
      rintro e w1 ⟨rfl, rfl⟩
      rw [Hf.out]
      go_wp2_with fail
      refine (same_any 0 0 _ (by omega)).mono ?_
      rintro e w1 ⟨rfl, rfl⟩
      go_wp2_with fail
      refine (rising_any _ _ l _ hl (hs.later hb0 (Nat.le_refl _))).mono ?_
      rintro e w1 ⟨rfl, hb1⟩
      have hb2 := hb0.trans (hb1.mono hb0.size)
      clear hb1 hb0
      cases rises l
      · go_wp2
        go_ret
        exact ⟨rfl, hb2⟩
      · have hfst : first k a = if k = 4 then 1 else a := rfl
        have Hfst := hide hfst; clear hfst
        obtain ⟨q, h4', Hfst⟩ : ∃ q : Bool, (k == 4) = q ∧ Hid (first k a = if q then 1 else a) := by
          refine ⟨k == 4, rfl, ?_⟩
          show _ = _
          unfold first; simp
        cases q
        all_goals
          go_wp2_with fail
          refine (First_any _ _ _).mono ?_
          rintro e w3 ⟨rfl, rfl⟩
          rw [Hfst.out]
          simp only [if_true, Bool.false_eq_true, if_false]
          go_wp2_with fail
          refine (Groups_any k ao cap l _ (by omega) (hs.later hb2 (Nat.le_refl _))).mono ?_
          rintro e w3 ⟨v, rfl, hv, hb3⟩
          have hb4 := hb2.trans (hb3.mono hb2.size)
          go_wp2_with fail
          refine (Grouped_any k ao cap l _ (by omega) (hs.later hb4 (Nat.le_refl _))).mono ?_
          rintro e w4 ⟨u, rfl, hu, hb5⟩
          have hv5 := hv.later hb5
          have hgl := groups_length k l
          obtain ⟨⟨vo, vc, rfl⟩, _⟩ := id hv5
          obtain ⟨⟨uo, uc, rfl⟩, _⟩ := id hu
          go_wp2_with fail
          refine (SamePairs_refl vo uo vc uc (groups k l) _ (by unfold maxLen; omega) (hv5.sl encP_len) (hu.sl encP_len)).mono ?_
          rintro e w5 ⟨rfl, hb6⟩
          have hb7 := (hb4.trans (hb5.mono hb4.size))
          have hb8 := hb7.trans (hb6.mono hb7.size)
          go_wp2_with (first
            | (go_at_call 23; refine (two_any _ _ _ _).mono ?_; rintro e w9 ⟨rfl, rfl⟩)
            | (go_at_call 24; refine (refTwo_any _ _ _ _).mono ?_; rintro e w9 ⟨rfl, rfl⟩))
          all_goals (go_ret; exact ⟨by first | rfl | simp, hb8⟩)
    · have hf : kindFault k = 3 := by unfold kindFault; rw [if_pos (by omega)]
      have Hf := hide hf; clear hf
      have hor : k < 1 ∨ 4 < k := by omega
      rcases hor with h | h
      · have e1 : decide (k < 1) = true := by simpa using h
        go_wp2_with fail
        refine (foldCheck_any _ _).mono ?_
        rintro e w1 ⟨rfl, rfl⟩
        rw [Hf.out]
        go_wp2_with fail
        refine (same_any 3 3 _ (by omega)).mono ?_
        rintro e w1 ⟨rfl, rfl⟩
        go_wp2_with fail
        refine (rising_any _ _ l _ hl (hs.later hb0 (Nat.le_refl _))).mono ?_
        rintro e w1 ⟨rfl, hb1⟩
        go_wp2
        go_ret
        exact ⟨rfl, hb0.trans (hb1.mono hb0.size)⟩
      · have e1 : decide (k < 1) = false := by simp; omega
        have e2 : decide (4 < k) = true := by simpa using h
        go_wp2_with fail
        refine (foldCheck_any _ _).mono ?_
        rintro e w1 ⟨rfl, rfl⟩
        rw [Hf.out]
        go_wp2_with fail
        refine (same_any 3 3 _ (by omega)).mono ?_
        rintro e w1 ⟨rfl, rfl⟩
        go_wp2_with fail
        refine (rising_any _ _ l _ hl (hs.later hb0 (Nat.le_refl _))).mono ?_
        rintro e w1 ⟨rfl, hb1⟩
        go_wp2
        go_ret
        exact ⟨rfl, hb0.trans (hb1.mono hb0.size)⟩
set_option maxRecDepth 100000 in
theorem FoldSays_lifted (os : Os) (started : os.Started) (H : Type) (enc : TypeId × Value → H) :
    ReturnsInHanded {} Try.checked os 4 .any (Rows.foldSaysSpec.pre6 enc Try.prog Try.f4 Rows.foldSaysRow.domain false) (Rows.foldSaysSpec.post enc Try.prog Try.f4 false true false false) := by
  refine returnsInHanded_of_change (C := Try.checked) own started (by kernel_rfl) Try.func4
    (ChangeSpec.witness6 (enc := enc) (C := Try.checked) false ⟨#[], #[.int .i64 0, .int .i64 0, .int .i64 0, .slice none 0 0], []⟩ 8 (by kernel_rfl) (by kernel_rfl) (by kernel_rfl) (by kernel_rfl)) ?_
  intro W base args ds gs before hval0 hW hcnd _
  have hval : ∀ (j : Nat) t v, Try.f4.params[j]? = some t → args[j]? = some v → Value.okWide Try.prog W .any base t v := hval0
  have hW' := hW
  obtain ⟨p, q, hA0, hV, rfl, hfz, hnd⟩ := hW
  have hA : DataW.TrodAll enc Try.prog W 0 (fun _ => true) true Try.f4.params.toList args.toList ds p := hA0
  rw [Try.params4] at hA hval
  obtain ⟨v0, vs0, d0, ds0, p0, q0, hargs, rfl, rfl, h0, r0⟩ := trodAll_cons hA
  obtain ⟨v1, vs1, d1, ds1, p1, q1, rfl, rfl, rfl, h1, r1⟩ := trodAll_cons r0
  obtain ⟨v2, vs2, d2, ds2, p2, q2, rfl, rfl, rfl, h2, r2⟩ := trodAll_cons r1
  obtain ⟨v3, vs3, d3, ds3, p3, q3, rfl, rfl, rfl, h3, r3⟩ := trodAll_cons r2
  obtain ⟨rfl, rfl, rfl⟩ := trodAll_nil r3
  obtain rfl : args = #[v0, v1, v2, v3] := by cases args; simp_all
  obtain ⟨rfl, rfl⟩ := trodVars_none hV
  have lt0 : ∀ x ∈ p0, x.block < W.heap.size := by obtain ⟨m, hm⟩ := h0; exact DataW.trod_lt m _ _ _ hm
  have k0 := hval 0 3 v0 rfl rfl
  have g0 := h0
  have lt1 : ∀ x ∈ p1, x.block < W.heap.size := by obtain ⟨m, hm⟩ := h1; exact DataW.trod_lt m _ _ _ hm
  have k1 := hval 1 3 v1 rfl rfl
  have g1 := h1
  have lt2 : ∀ x ∈ p2, x.block < W.heap.size := by obtain ⟨m, hm⟩ := h2; exact DataW.trod_lt m _ _ _ hm
  have k2 := hval 2 3 v2 rfl rfl
  have g2 := h2
  have lt3 : ∀ x ∈ p3, x.block < W.heap.size := by obtain ⟨m, hm⟩ := h3; exact DataW.trod_lt m _ _ _ hm
  have k3 := hval 3 36 v3 rfl rfl
  have g3 := h3
  clear hA0 hval0
  obtain ⟨k, rfl, rfl, rfl, _⟩ := open_int Try.underlying3 k0 h0
  obtain ⟨a, rfl, rfl, rfl, _⟩ := open_int Try.underlying3 k1 h1
  obtain ⟨b, rfl, rfl, rfl, _⟩ := open_int Try.underlying3 k2 h2
  obtain ⟨ao, cap, l, rfl, hs0, hm0, _⟩ := open_sl Try.underlying36 cells_pair (by decide) el_pair (okWide_slice Try.underlying36 k3) h3
  refine (FoldSays_walk k a b ao cap l W hm0 hs0).mono fun e W' ⟨he, bel⟩ => ?_
  subst he
  exact ⟨_, rfl, _, _, _, [], _, [], hW', trodAll_mk1 (shut_bool Try.underlying4 _), (trodAll_cons_mk (Below.trod laidOut (by kernel_rfl) (of_decide_eq_true (by kernel_rfl)) g0 bel lt0) (trodAll_cons_mk (Below.trod laidOut (by kernel_rfl) (of_decide_eq_true (by kernel_rfl)) g1 bel lt1) (trodAll_cons_mk (Below.trod laidOut (by kernel_rfl) (of_decide_eq_true (by kernel_rfl)) g2 bel lt2) (trodAll_cons_mk (Below.trod laidOut (by kernel_rfl) (of_decide_eq_true (by kernel_rfl)) g3 bel lt3) trodAll_mk0)))), rfl, bel.frame _, fun h => by cases h⟩

theorem FoldSays_holds : Rows.FoldSaysSaid :=
  OpenClaim.holds_of_wide 4 Try.f4 rfl rfl rfl rfl rfl rfl rfl ⟨rfl, rfl, rfl, rfl, rfl⟩ rfl rfl rfl rfl rfl (by kernel_rfl) Try.func4 (by kernel_rfl)
    (of_decide_eq_true (by kernel_rfl)) (by unfold Func.isWrapper; first | (rw [if_pos (by decide +kernel)]; kernel_rfl) | (rw [if_neg (by decide +kernel)]; exact ⟨rfl, rfl⟩))
    (fun os started H enc _ => FoldSays_lifted os started H enc)
#print axioms FoldSays_holds
end Go.Proofs.Ytllibbdgnjcchaa
