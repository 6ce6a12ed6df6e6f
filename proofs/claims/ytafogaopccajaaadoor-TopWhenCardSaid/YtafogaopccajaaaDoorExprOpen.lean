/- An expression that comes in as an argument. -/
import Derived.Test.YtafogaopccajaaaDoorExpr11
set_option linter.unusedSimpArgs false
set_option linter.unusedVariables false
/- Expressions: the closed fact of the law. -/
namespace Go.Proofs.YtafogaopccajaaaDoor
open Go.RowKit Go.ChangeShapes Go.WideShapes Go.ChangeAt

theorem ExAt_leaf (w : World) (k n : Int) (s : ByteArray) (hk : -1000 ≤ k ∧ k ≤ 1000) (hn : -1000 ≤ n ∧ n ≤ 1000) (hs : s.size ≤ 1000) : ExAt w 1 (.mk k n s []) (encX k n s none ([] : List ExprV).length 0) :=
  ⟨none, 0, rfl, by omega, by omega, by unfold maxLen; omega, by unfold maxLen; simp, fun i x h => by simp at h⟩
end Go.Proofs.YtafogaopccajaaaDoor
namespace Go.Proofs.YtafogaopccajaaaDoor
open Go.RowKit Go.ChangeShapes Go.WideShapes Go.ChangeAt

theorem ExAt_pos {w : World} {N : Nat} {k n : Int} {s : ByteArray} {a : List ExprV} {cs : List Value} (h : ExAt w N (.mk k n s a) cs) : ∃ ao cap, cs = encX k n s ao a.length cap := by
  cases N with
  | zero => exact h.elim
  | succ N => obtain ⟨ao, cap, e, _⟩ := h; exact ⟨ao, cap, e⟩
theorem open_expr {H : Type} {enc0 : TypeId × Value → H} {w : World} {cs : Array Value} {d : DataW H} {ps : List MemPlace} (h : DataW.Trod enc0 Tryd.prog w 0 (fun _ => true) true 36 (.agg cs) d ps) :
    ∃ k n s a ao cap, Value.agg cs = .agg #[.int .i64 k, .int .i64 n, .string s, .slice ao a.length cap] ∧ ExAt w (Rows.uptoBulk d) (.mk k n s a) (encX k n s ao a.length cap) ∧ (ExprV.mk k n s a).nodes ≤ Rows.uptoBulk d := by
  obtain ⟨fuel, hf⟩ := h
  obtain ⟨e, he, hn⟩ := el_expr (Rows.uptoBulk d) fuel _ _ (Nat.le_refl _) hf
  obtain ⟨k, n, s, a⟩ := e
  obtain ⟨ao, cap, hcs⟩ := ExAt_pos he
  rw [hcs] at he
  have h2 : cs.toList = encX k n s ao a.length cap := by simpa [Value.cells] using hcs
  have h3 : cs = (encX k n s ao a.length cap).toArray := by rw [← h2]
  exact ⟨k, n, s, a, ao, cap, by rw [h3]; rfl, he, hn⟩
end Go.Proofs.YtafogaopccajaaaDoor
