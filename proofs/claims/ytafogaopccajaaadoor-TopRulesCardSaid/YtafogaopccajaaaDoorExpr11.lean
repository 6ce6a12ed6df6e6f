/- Expressions: a record of a line (expr.Of). -/
import Derived.Test.YtafogaopccajaaaDoorExpr10
import Derived.Test.YtafogaopccajaaaDoorExprSize
import Derived.Handy
set_option linter.unusedSimpArgs false
set_option linter.unusedVariables false
namespace Go.Proofs.YtafogaopccajaaaDoor
open Go.RowKit Go.ChangeShapes Go.WideShapes Go.ChangeAt

set_option maxHeartbeats 1000000 in
theorem Of_any (line : ByteArray) (w : World) (hg : GM w) (hs : line.size ≤ 1000000) :
    Calls Tryd.prog 34 #[.string line] w fun e w' => ∃ v, e = .returned (.agg #[.string line, .string ⟨#[]⟩, v]) ∧ Own 1 encS 9 w' w.heap.size v (wordsB line) ∧ Below w.heap.size w w' := by
  have hb1 : Below w.heap.size w (w.alloc (.cells #[.string ⟨#[]⟩, .string ⟨#[]⟩, .slice none 0 0] 74)) := (Below.refl _ _).alloc (Nat.le_refl _) _
  have hbk : Bk (w.alloc (.cells #[.string ⟨#[]⟩, .string ⟨#[]⟩, .slice none 0 0] 74)) w.heap.size [.string ⟨#[]⟩, .string ⟨#[]⟩, .slice none 0 0] := Bk.new rfl
  have HX := hide (Words_any line _ (hg.later hb1 (Nat.le_refl _)) hs)
  go_enter Tryd.func34, Tryd.ntmps34
  go_wp2_with fail
  refine HX.out.mono ?_
  rintro e w3 ⟨v, rfl, o3, b3⟩
  obtain ⟨⟨a3, q3, rfl⟩, _⟩ := id o3
  have hlt3 := hbk.lt
  have hbk3 := hbk.later b3
  have c0 := hbk3.get (j := 0) rfl
  have c1 := hbk3.get (j := 1) rfl
  have c2 := hbk3.get (j := 2) rfl
  have z0 := hbk3.fz 0
  have z1 := hbk3.fz 1
  have z2 := hbk3.fz 2
  have HBK := hide hbk3
  have HB3 := hide (hb1.trans (b3.mono hb1.size))
  have O3 := hide o3
  have hkk := ((hbk3.set (k := 0) (u := .string ⟨#[]⟩) (.string line) rfl).set (k := 1) (u := .string ⟨#[]⟩) (.string ⟨#[]⟩) rfl).set (k := 2) (u := .slice none 0 0) (.slice a3 (wordsB line).length q3) rfl
  have f0 := hkk.get (j := 0) rfl
  have f1 := hkk.get (j := 1) rfl
  have f2 := hkk.get (j := 2) rfl
  have y0 := hkk.fz 0
  have y1 := hkk.fz 1
  have y2 := hkk.fz 2
  have hoo : ∀ q, (Value.slice a3 (wordsB line).length q3).ownBlock = some q → q ≠ w.heap.size := fun q hq e => by
    have := (O3.out.lt _ hq).1
    simp at this
    omega
  have HOO := hide hoo
  clear HX hbk hbk3 o3 b3 hb1 hkk hoo
  go_wp2
  have own3 : ∀ q, q = w.heap.size → (Value.slice a3 (wordsB line).length q3).ownBlock ≠ some q := fun q e h => HOO.out q h e
  exact bodyPost_ret (v := .agg #[.string line, .string ⟨#[]⟩, .slice a3 (wordsB line).length q3]) (by simp [results, Tryd.results34, go_sem, f0, f1, f2, y0, y1, y2]) rfl
    ⟨_, rfl, (((O3.out.base_le (b := w.heap.size) (by simp)).setOther (a := ⟨w.heap.size, 0, none⟩) (own3 _ rfl) _).setOther (a := ⟨w.heap.size, 1, none⟩) (own3 _ rfl) _).setOther (a := ⟨w.heap.size, 2, none⟩) (own3 _ rfl) _, ((HB3.out.setCell (Nat.le_refl _) _).setCell (Nat.le_refl _) _).setCell (Nat.le_refl _) _⟩
end Go.Proofs.YtafogaopccajaaaDoor
