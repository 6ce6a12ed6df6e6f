/- 'QueueSays' returns true for every input and leaves its arguments as they were; no condition. -/
import Derived.Test.YtllibbdgnjcchaaQ6
import Derived.Test.YtllibbdgnjcchaaOpen
namespace Go.Proofs.Ytllibbdgnjcchaa
open Go.ChangeShapes Go.WideShapes Go.ChangeAt Go.RowKit

theorem own : ownKnob Try.prog.godebug = none := by kernel_rfl
theorem laidOut : laidOutB Try.prog = true := by kernel_rfl

theorem cells3 : Try.prog.cellsOf 3 = 1 := by kernel_rfl
theorem cells4 : Try.prog.cellsOf 4 = 1 := by kernel_rfl
theorem cells33 : Try.prog.cellsOf 33 = 2 := by kernel_rfl
theorem el_int {H : Type} {enc0 : TypeId × Value → H} {w : World} (fuel : Nat) (cs : List Value) (x) (h : DataW.trod enc0 Try.prog w 0 (fun _ => true) true fuel 3 cs = some x) : ∃ a : Int, cs = encInt a ∧ (-9223372036854775808 ≤ a ∧ a ≤ 9223372036854775807) := by
  obtain ⟨n, rfl, _, hw⟩ := DataW.trod_int Try.underlying3 h
  exact ⟨n, rfl, by have := bounds_i64 hw; omega⟩
theorem el_bool {H : Type} {enc0 : TypeId × Value → H} {w : World} (fuel : Nat) (cs : List Value) (x) (h : DataW.trod enc0 Try.prog w 0 (fun _ => true) true fuel 4 cs = some x) : ∃ a : Bool, cs = encBool a ∧ True := by
  obtain ⟨n, rfl, _⟩ := DataW.trod_bool Try.underlying4 h
  exact ⟨n, rfl, trivial⟩
set_option maxRecDepth 100000 in
theorem el_queue {H : Type} {enc0 : TypeId × Value → H} {w : World} (fuel : Nat) (cs : List Value) (x) (h : DataW.trod enc0 Try.prog w 0 (fun _ => true) true fuel 33 cs = some x) : ∃ a : Int × Int, cs = encInt2 a ∧ True := by
  obtain ⟨y0, y1, n, _, hl, h0, h1⟩ := trod_struct2 Try.underlying33 h
  obtain ⟨a, e0, _, _⟩ := DataW.trod_int Try.underlying3 h0
  obtain ⟨b, e1, _, _⟩ := DataW.trod_int Try.underlying3 h1
  rw [cells33] at hl
  dsimp only at e0 e1
  rw [cells3] at e0 e1
  match cs, hl with
  | [c0, c1], _ =>
    simp at e0 e1
    exact ⟨(a, b), by rw [e0, e1]; rfl, trivial⟩

set_option maxRecDepth 100000 in
theorem QueueSays_lifted (os : Os) (started : os.Started) (H : Type) (enc : TypeId × Value → H) :
    ReturnsInHanded {} Try.checked os 3 .any (Rows.queueSaysSpec.pre6 enc Try.prog Try.f3 Rows.queueSaysRow.domain false) (Rows.queueSaysSpec.post enc Try.prog Try.f3 false true false false) := by
  refine returnsInHanded_of_change (C := Try.checked) own started (by kernel_rfl) Try.func3
    (ChangeSpec.witness6 (enc := enc) (C := Try.checked) false ⟨#[], #[.slice none 0 0, .slice none 0 0, .slice none 0 0], []⟩ 8 (by kernel_rfl) (by kernel_rfl) (by kernel_rfl) (by kernel_rfl)) ?_
  intro W base args ds gs before hval0 hW hcnd _
  have hval : ∀ (j : Nat) t v, Try.f3.params[j]? = some t → args[j]? = some v → Value.okWide Try.prog W .any base t v := hval0
  have hW' := hW
  obtain ⟨p, q, hA0, hV, rfl, hfz, hnd⟩ := hW
  have hA : DataW.TrodAll enc Try.prog W 0 (fun _ => true) true Try.f3.params.toList args.toList ds p := hA0
  rw [Try.params3] at hA hval
  obtain ⟨v0, vs0, d0, ds0, p0, q0, hargs, rfl, rfl, h0, r0⟩ := trodAll_cons hA
  obtain ⟨v1, vs1, d1, ds1, p1, q1, rfl, rfl, rfl, h1, r1⟩ := trodAll_cons r0
  obtain ⟨v2, vs2, d2, ds2, p2, q2, rfl, rfl, rfl, h2, r2⟩ := trodAll_cons r1
  obtain ⟨rfl, rfl, rfl⟩ := trodAll_nil r2
  obtain rfl : args = #[v0, v1, v2] := by cases args; simp_all
  obtain ⟨rfl, rfl⟩ := trodVars_none hV
  have lt0 : ∀ x ∈ p0, x.block < W.heap.size := by obtain ⟨m, hm⟩ := h0; exact DataW.trod_lt m _ _ _ hm
  have lt1 : ∀ x ∈ p1, x.block < W.heap.size := by obtain ⟨m, hm⟩ := h1; exact DataW.trod_lt m _ _ _ hm
  have lt2 : ∀ x ∈ p2, x.block < W.heap.size := by obtain ⟨m, hm⟩ := h2; exact DataW.trod_lt m _ _ _ hm
  obtain ⟨ao, ca, l, rfl, hs0, hm0, _⟩ := open_sl Try.underlying22 cells33 (by decide) el_queue (okWide_slice Try.underlying22 (hval 0 22 v0 rfl rfl)) h0
  obtain ⟨bo, cb, has, rfl, hs1, hm1, _⟩ := open_sl Try.underlying23 cells3 (by decide) el_int (okWide_slice Try.underlying23 (hval 1 23 v1 rfl rfl)) h1
  obtain ⟨co, cc, wants, rfl, hs2, hm2, _⟩ := open_sl Try.underlying24 cells4 (by decide) el_bool (okWide_slice Try.underlying24 (hval 2 24 v2 rfl rfl)) h2
  clear hA0 hval0
  refine (QueueSays_walk ao bo co ca cb cc l has wants W hm0 hm1 hm2 hs0 hs1 hs2).mono fun e W' ⟨he, bel⟩ => ?_
  subst he
  exact ⟨_, rfl, _, _, _, [], _, [], hW', trodAll_mk1 (shut_bool Try.underlying4 _), (trodAll_cons_mk (Below.trod laidOut (by kernel_rfl) (of_decide_eq_true (by kernel_rfl)) h0 bel lt0) (trodAll_cons_mk (Below.trod laidOut (by kernel_rfl) (of_decide_eq_true (by kernel_rfl)) h1 bel lt1) (trodAll_cons_mk (Below.trod laidOut (by kernel_rfl) (of_decide_eq_true (by kernel_rfl)) h2 bel lt2) trodAll_mk0))), rfl, bel.frame _, fun h => by cases h⟩

theorem QueueSays_holds : Rows.QueueSaysSaid :=
  OpenClaim.holds_of_wide 3 Try.f3 rfl rfl rfl rfl rfl rfl rfl ⟨rfl, rfl, rfl, rfl, rfl⟩ rfl rfl rfl rfl rfl (by kernel_rfl) Try.func3 (by kernel_rfl)
    (of_decide_eq_true (by kernel_rfl)) (by unfold Func.isWrapper; first | (rw [if_pos (by decide +kernel)]; kernel_rfl) | (rw [if_neg (by decide +kernel)]; exact ⟨rfl, rfl⟩))
    (fun os started H enc _ => QueueSays_lifted os started H enc)
#print axioms QueueSays_holds
end Go.Proofs.Ytllibbdgnjcchaa
