/- Expressions: the closed fact of the law. -/
import Derived.Test.YtkodbldfoldbjaaDoorExpr11
set_option linter.unusedSimpArgs false
set_option linter.unusedVariables false
namespace Go.Proofs.YtkodbldfoldbjaaDoor
open Go.RowKit Go.ChangeShapes Go.WideShapes Go.ChangeAt

theorem ExAt_leaf (w : World) (k n : Int) (s : ByteArray) (hk : -1000 ≤ k ∧ k ≤ 1000) (hn : -1000 ≤ n ∧ n ≤ 1000) (hs : s.size ≤ 1000) : ExAt w 1 (.mk k n s []) (encX k n s none ([] : List ExprV).length 0) :=
  ⟨none, 0, rfl, by omega, by omega, by unfold maxLen; omega, by unfold maxLen; simp, fun i x h => by simp at h⟩
set_option maxHeartbeats 1000000 in
theorem exprs_any (w : World) (hg : GM w) :
    Calls Tryd.prog 12 #[] w fun e w' => e = .returned (.bool true) ∧ Below w.heap.size w w' := by
  have hwb : wordsB ⟨#[97, 32, 98, 99]⟩ = [⟨#[97]⟩, ⟨#[98, 99]⟩] := by decide +kernel
  have HX := hide (Of_any ⟨#[97, 32, 98, 99]⟩ w hg (by decide))
  rw [hwb] at HX
  have hBs : Hid (∀ e : ExprV, shE e true true = true → e.nodes ≤ 1000 → (strE e ⟨#[97, 32, 98, 99]⟩ ⟨#[]⟩ [⟨#[97]⟩, ⟨#[98, 99]⟩]).size ≤ 1000000) :=
    str_small (by decide) (by decide) (fun x hx => by
      rcases List.mem_cons.1 hx with rfl | hx
      · decide
      · rcases List.mem_cons.1 hx with rfl | hx
        · decide
        · cases hx)
  clear hwb
  go_enter Tryd.func12, Tryd.ntmps12
  go_wp2_with fail
  refine HX.out.mono ?_
  rintro e w1 ⟨v, rfl, o1, b1⟩
  obtain ⟨⟨a1, q1, rfl⟩, _⟩ := id o1
  have hb2 : Below w.heap.size w (w1.alloc (.cells #[.string ⟨#[97, 32, 98, 99]⟩, .string ⟨#[]⟩, .slice a1 2 q1] 36)) := b1.alloc b1.size _
  have hsl := (o1.sl encS_len).later ((Below.refl _ _).alloc (Nat.le_refl _) (.cells #[.string ⟨#[97, 32, 98, 99]⟩, .string ⟨#[]⟩, .slice a1 2 q1] 36)) (Nat.le_refl w1.heap.size)
  have HS := hide (Str_any ⟨#[97, 32, 98, 99]⟩ ⟨#[]⟩ a1 q1 [⟨#[97]⟩, ⟨#[98, 99]⟩] true (by decide) hBs 1 3 1 ⟨#[]⟩ [] none 0 _ (ExAt_leaf _ 3 1 ⟨#[]⟩ (by decide) (by decide) (by decide)) (by decide +kernel) (by decide +kernel) hsl)
  rw [show strE (.mk 3 1 ⟨#[]⟩ []) ⟨#[97, 32, 98, 99]⟩ ⟨#[]⟩ [⟨#[97]⟩, ⟨#[98, 99]⟩] = ⟨#[98, 99]⟩ by rw [strE]; rfl] at HS
  obtain ⟨r0, r1, r2⟩ := boxR_cells w1 ⟨#[97, 32, 98, 99]⟩ ⟨#[]⟩ a1 2 q1
  have HSL := hide hsl
  have HB2 := hide hb2
  clear HX o1 hb2 hsl
  go_wp2_with fail
  refine HS.out.mono ?_
  rintro e w2 ⟨rfl, b2⟩
  have HI := hide (Int_any ⟨#[97, 32, 98, 99]⟩ ⟨#[]⟩ a1 q1 [⟨#[97]⟩, ⟨#[98, 99]⟩] true (by decide) hBs 1 9 0 ⟨#[]⟩ [] none 0 w2 (ExAt_leaf _ 9 0 ⟨#[]⟩ (by decide) (by decide) (by decide)) (by decide +kernel) (by decide +kernel) (HSL.out.later b2 (Nat.le_refl _)))
  rw [show intE (.mk 9 0 ⟨#[]⟩ []) ⟨#[97, 32, 98, 99]⟩ ⟨#[]⟩ [⟨#[97]⟩, ⟨#[98, 99]⟩] = 2 by rw [intE]; rfl] at HI
  have s0 := cell_later b2 r0
  have s1 := cell_later b2 r1
  have s2 := cell_later b2 r2
  have HB3 := hide (HB2.out.trans (b2.mono HB2.out.size))
  clear HS b2 r0 r1 r2
  go_wp2_with fail
  refine HI.out.mono ?_
  rintro e w3 ⟨rfl, b3⟩
  have HB4 := hide (HB3.out.trans (b3.mono HB3.out.size))
  clear HI b3
  go_wp2
  go_ret
  exact ⟨rfl, HB4.out⟩
end Go.Proofs.YtkodbldfoldbjaaDoor
