/- From the form's reading of an argument to lists: slices of flat elements. -/
import Derived.Test.YtjkggijkccbcpaaDoorRows
import Derived.Test.YtjkggijkccbcpaaDoorPairSum
import Derived.ProofKit
import Derived.OpenShut
import Derived.ShutString
import Derived.ChangeOld
import Derived.Deep.Slices
set_option linter.unusedSimpArgs false
set_option linter.unusedVariables false
namespace Go.Proofs.YtjkggijkccbcpaaDoor
open Go.RowKit Go.ChangeShapes Go.WideShapes Go.ChangeAt

theorem add_at (b off i : Nat) (sp) (h : sp = none) : (⟨b, off, sp⟩ : Addr).add i = ⟨b, off + i, none⟩ := by
  subst h; unfold Addr.add; split <;> simp_all

theorem cells_cell {w : World} {base : Nat} {a : Addr} {n : Nat} {cs : List Value} (h : w.cells? base a n = some cs) : cs.length = n ∧ ∀ (j : Nat) v, cs[j]? = some v → w.cell? (a.add j) = some v := by
  obtain ⟨_, hl, hc⟩ := World.cells?_some h
  refine ⟨hl, fun j v hj => ?_⟩
  have hlt : j < n := by
    rw [← hl]; exact (List.getElem?_eq_some_iff.1 hj).1
  rw [hc j hlt]; exact hj

theorem open_sl {H : Type} {enc0 : TypeId × Value → H} {P : Program} {w : World} {t e : TypeId} {sz : Nat} {α : Type} [Inhabited α] {enc : α → List Value} {ok : α → Prop}
    (ht : P.underlying t = some (.slice e)) (hsz : P.cellsOf e = sz) (h0 : 0 < sz)
    (hel : ∀ fuel cs x, DataW.trod enc0 P w 0 (fun _ => true) true fuel e cs = some x → ∃ a, cs = enc a ∧ ok a)
    {v : Value} {d : DataW H} {ps : List MemPlace} (hv : ∃ a len cap, v = .slice a len cap) (h : DataW.Trod enc0 P w 0 (fun _ => true) true t v d ps) :
    ∃ ao cap, ∃ l : List α, v = .slice ao l.length cap ∧ Sl sz enc w ao l ∧ l.length ≤ maxLen ∧ ∀ x ∈ l, ok x := by
  obtain ⟨a, len, cap, rfl⟩ := hv
  obtain ⟨fuel, hf⟩ := h
  rcases Deep.open_slice ht hf with ⟨hcs, _⟩ | ⟨a', len', cap', m, n, D, Pl, hcs, _, hl, hm, hmm, _, hall⟩
  · simp [Value.cells] at hcs
    obtain ⟨rfl, rfl, rfl⟩ := hcs
    exact ⟨none, 0, [], rfl, Sl.nil, by simp, by simp⟩
  · simp [Value.cells] at hcs
    obtain ⟨rfl, rfl, rfl⟩ := hcs
    have hm' : len ≤ m := by rw [hmm]; split <;> omega
    obtain ⟨f, hfx⟩ := Deep.choose_lt (n := len) (p := fun i (x : α) => w.cells? 0 (a'.add (i * sz)) sz = some (enc x) ∧ ok x) (fun i hi => by
      obtain ⟨cs', h1, h2⟩ := hall i (by omega)
      obtain ⟨x, hx, hok⟩ := hel _ _ _ h2
      rw [hsz] at h1
      exact ⟨x, by rw [← hx]; exact h1, hok⟩)
    refine ⟨some a', cap, (List.range len).map f, by simp, ?_, by simp; omega, fun x hx => ?_⟩
    · intro hpos
      have hpos' : 0 < len := by simpa using hpos
      obtain ⟨b, off, sp⟩ := a'
      obtain ⟨c0, c1⟩ := cells_cell (hfx 0 hpos').1
      obtain ⟨v0, hv0⟩ : ∃ v, (enc (f 0))[0]? = some v := by
        rw [List.getElem?_eq_getElem (by omega)]; exact ⟨_, rfl⟩
      have hc0 := c1 0 v0 hv0
      have hsp : sp = none := by
        have := World.cell?_spot hc0
        simpa [Addr.add] using this
      subst hsp
      refine ⟨b, off, rfl, ?_, fun i x j v hi hj => ?_⟩
      · have := World.block_lt_of_cell? w _ hc0
        rw [add_at _ _ _ _ rfl, add_at _ _ _ _ rfl] at this
        exact this
      · have hi' : i < len := by
          have := (List.getElem?_eq_some_iff.1 hi).1
          simpa using this
        have hx : f i = x := by
          rw [List.getElem?_map, List.getElem?_range hi'] at hi
          simpa using hi
        subst hx
        have := (cells_cell (hfx i hi').1).2 j v hj
        rw [add_at _ _ _ _ rfl, add_at _ _ _ _ rfl] at this
        exact this
    · obtain ⟨i, hi, rfl⟩ := List.mem_map.1 hx
      exact (hfx i (by simpa using hi)).2

theorem own : ownKnob Tryd.prog.godebug = none := by kernel_rfl
theorem laidOut : laidOutB Tryd.prog = true := by kernel_rfl
theorem cells_int : Tryd.prog.cellsOf 3 = 1 := by kernel_rfl
theorem el_int {H : Type} {enc0 : TypeId × Value → H} {w : World} (fuel : Nat) (cs : List Value) (x) (h : DataW.trod enc0 Tryd.prog w 0 (fun _ => true) true fuel 3 cs = some x) : ∃ a : Int, cs = encInt a ∧ (-9223372036854775808 ≤ a ∧ a ≤ 9223372036854775807) := by
  obtain ⟨n, rfl, _, hw⟩ := DataW.trod_int Tryd.underlying3 h
  exact ⟨n, rfl, by have := bounds_i64 hw; omega⟩
theorem cells_bool : Tryd.prog.cellsOf 4 = 1 := by kernel_rfl
theorem el_bool {H : Type} {enc0 : TypeId × Value → H} {w : World} (fuel : Nat) (cs : List Value) (x) (h : DataW.trod enc0 Tryd.prog w 0 (fun _ => true) true fuel 4 cs = some x) : ∃ a : Bool, cs = encBool a ∧ True := by
  obtain ⟨n, rfl, _⟩ := DataW.trod_bool Tryd.underlying4 h
  exact ⟨n, rfl, trivial⟩
theorem cells_string : Tryd.prog.cellsOf 9 = 1 := by kernel_rfl
theorem cells_pair : Tryd.prog.cellsOf 70 = 2 := by kernel_rfl
set_option maxRecDepth 100000 in
theorem el_pair {H : Type} {enc0 : TypeId × Value → H} {w : World} (fuel : Nat) (cs : List Value) (x) (h : DataW.trod enc0 Tryd.prog w 0 (fun _ => true) true fuel 70 cs = some x) : ∃ a : Pr, cs = encP a ∧ (a.1.size ≤ maxLen ∧ -9223372036854775808 ≤ a.2 ∧ a.2 ≤ 9223372036854775807) := by
  obtain ⟨y0, y1, n, _, hl, h0, h1⟩ := trod_struct2 Tryd.underlying70 h
  obtain ⟨a, e0, _, hs⟩ := DataW.trod_string Tryd.underlying9 h0
  obtain ⟨b, e1, _, hw⟩ := DataW.trod_int Tryd.underlying3 h1
  rw [cells_pair] at hl
  dsimp only at e0 e1
  rw [cells_int] at e1
  rw [cells_string] at e0
  match cs, hl with
  | [c0, c1], _ =>
    simp at e0 e1
    exact ⟨(a, b), by rw [e0, e1]; rfl, hs, by have := bounds_i64 hw; omega⟩
end Go.Proofs.YtjkggijkccbcpaaDoor
