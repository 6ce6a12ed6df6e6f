/- Slices of slices of pairs: from the form's reading. -/
import Derived.Test.YtkodbldfoldbjaaDoorMerge
import Derived.Laws.AppendOwnNone
set_option linter.unusedSimpArgs false
set_option linter.unusedVariables false
namespace Go.Proofs.YtkodbldfoldbjaaDoor
open Go.RowKit Go.ChangeShapes Go.WideShapes Go.ChangeAt

/-- as open_sl, of cells -/
theorem open_slc {H : Type} {enc0 : TypeId × Value → H} {P : Program} {w : World} {t e : TypeId} {sz : Nat} {α : Type} [Inhabited α] {enc : α → List Value} {ok : α → Prop}
    (ht : P.underlying t = some (.slice e)) (hsz : P.cellsOf e = sz) (h0 : 0 < sz)
    (hel : ∀ fuel cs x, DataW.trod enc0 P w 0 (fun _ => true) true fuel e cs = some x → ∃ a, cs = enc a ∧ ok a)
    {cs : List Value} {x : DataW H × List MemPlace} {fuel : Nat} (hf : DataW.trod enc0 P w 0 (fun _ => true) true fuel t cs = some x) :
    ∃ ao cap, ∃ l : List α, cs = [.slice ao l.length cap] ∧ (ao = none → cap = 0) ∧ Sl sz enc w ao l ∧ l.length ≤ maxLen ∧ ∀ x ∈ l, ok x := by
  rcases Deep.open_slice ht hf with ⟨hcs, _⟩ | ⟨a', len', cap', m, n, D, Pl, hcs, _, hl, hm, hmm, _, hall⟩
  · subst hcs
    exact ⟨none, 0, [], rfl, fun _ => rfl, Sl.nil, by simp, by simp⟩
  · subst hcs
    have hm' : len' ≤ m := by rw [hmm]; split <;> omega
    obtain ⟨f, hfx⟩ := Deep.choose_lt (n := len') (p := fun i (x : α) => w.cells? 0 (a'.add (i * sz)) sz = some (enc x) ∧ ok x) (fun i hi => by
      obtain ⟨cs', h1, h2⟩ := hall i (by omega)
      obtain ⟨x, hx, hok⟩ := hel _ _ _ h2
      rw [hsz] at h1
      exact ⟨x, by rw [← hx]; exact h1, hok⟩)
    refine ⟨some a', cap', (List.range len').map f, by simp, (fun h => by cases h), ?_, by simp; omega, fun x hx => ?_⟩
    · intro hpos
      have hpos' : 0 < len' := by simpa using hpos
      obtain ⟨b, off, sp⟩ := a'
      obtain ⟨c0, c1⟩ := cells_cell (hfx 0 hpos').1
      obtain ⟨v0, hv0⟩ : ∃ v, (enc (f 0))[0]? = some v := by
        rw [List.getElem?_eq_getElem (by omega)]; exact ⟨_, rfl⟩
      have hc0 := c1 0 v0 hv0
      have hsp : sp = none := by
        have := World.cell?_spot hc0
        simpa [Addr.add] using this
      subst hsp
      refine ⟨b, off, rfl, ?_, fun i x j v hi hj => ?_⟩
      · have := World.block_lt_of_cell? w _ hc0
        rw [add_at _ _ _ _ rfl, add_at _ _ _ _ rfl] at this
        exact this
      · have hi' : i < len' := by
          have := (List.getElem?_eq_some_iff.1 hi).1
          simpa using this
        have hx : f i = x := by
          rw [List.getElem?_map, List.getElem?_range hi'] at hi
          simpa using hi
        subst hx
        have := (cells_cell (hfx i hi').1).2 j v hj
        rw [add_at _ _ _ _ rfl, add_at _ _ _ _ rfl] at this
        exact this
    · obtain ⟨i, hi, rfl⟩ := List.mem_map.1 hx
      exact (hfx i (by simpa using hi)).2
/-- a row that can be read -/
structure RowOk (w : World) (r : RowP) : Prop where
  nil : r.1 = none → r.2.1 = 0
  sl : Sl 2 encP w r.1 r.2.2
  len : r.2.2.length ≤ maxLen
theorem RowOk.later {w w' : World} {r : RowP} {B : Nat} (h : RowOk w r) (hb : Below B w w') (hB : w.heap.size ≤ B) : RowOk w' r := ⟨h.nil, h.sl.later hb hB, h.len⟩
theorem cells_rowp : Tryd.prog.cellsOf 43 = 1 := by kernel_rfl
theorem el_rowp {H : Type} {enc0 : TypeId × Value → H} {w : World} (fuel : Nat) (cs : List Value) (x) (h : DataW.trod enc0 Tryd.prog w 0 (fun _ => true) true fuel 43 cs = some x) : ∃ a : RowP, cs = encRow a ∧ (RowOk w a ∧ ∀ p ∈ a.2.2, p.1.size ≤ maxLen ∧ -9223372036854775808 ≤ p.2 ∧ p.2 ≤ 9223372036854775807) := by
  obtain ⟨ao, cap, l, rfl, h1, h2, h3, h4⟩ := open_slc Tryd.underlying43 cells_pair (by decide) el_pair h
  exact ⟨(ao, cap, l), rfl, ⟨h1, h2, h3⟩, h4⟩

theorem rowsL_take {rs : List RowP} {k : Nat} {a : Option Addr} {c : Nat} {l : List Pr} (h : rs[k]? = some (a, c, l)) : (rowsL (rs.take (k + 1))).flatten = (rowsL (rs.take k)).flatten ++ l := by
  obtain ⟨hlt, hx⟩ := List.getElem?_eq_some_iff.1 h
  rw [List.take_succ_eq_append_getElem hlt, hx]
  unfold rowsL
  rw [List.map_append, List.flatten_append]
  simp
theorem rowsL_le (rs : List RowP) (k : Nat) : (rowsL (rs.take k)).flatten.length ≤ (rowsL rs).flatten.length := by
  conv => rhs; rw [← List.take_append_drop k rs]
  unfold rowsL
  rw [List.map_append, List.flatten_append, List.length_append]
  omega
set_option maxRecDepth 100000 in
set_option maxHeartbeats 2000000 in
theorem Merged_any (ao : Option Addr) (cap : Nat) (rs : List RowP) (w : World) (hl : rs.length ≤ 100000) (htot : (rowsL rs).flatten.length ≤ 100000000) (hs : Sl 1 encRow w ao rs) (hrow : ∀ r ∈ rs, RowOk w r) :
    Calls Tryd.prog 43 #[.slice ao rs.length cap] w fun e w' => ∃ v, e = .returned v ∧ Own 2 encP 47 w' w.heap.size v (srt (rowsL rs).flatten) ∧ Below w.heap.size w w' := by
  obtain ⟨ip, hpi, hpz0, hpz1, hpz2⟩ := info_parts infoPr
  have HROW := hide hrow
  have HTOT := hide htot
  clear hrow htot
  go_enter Tryd.func43, Tryd.ntmps43
  go_wp2
  go_loopw [3, 4] (fun v i wr => ∃ k : Nat, k ≤ rs.length ∧ i = .int .i64 k ∧ Own 2 encP 47 wr w.heap.size v (rowsL (rs.take k)).flatten ∧ Below w.heap.size w wr) (fun _ i _ => rs.length - (intOf i).toNat)
  case atStart => exact ⟨0, by omega, by go_num, Own.nil, Below.refl _ _⟩
  case round =>
    obtain ⟨k, hk, rfl, hown, hbl⟩ := hrel
    by_cases hlt : k < rs.length
    · obtain ⟨b, off, ra, rc, l, rfl, hbw, hlk, c0⟩ := (hs.later hbl (Nat.le_refl _)).row hlt
      have hok := (HROW.out _ (List.mem_of_getElem? hlk)).later hbl (Nat.le_refl _)
      have HT := hide (rowsL_take hlk)
      have hle : (rowsL (rs.take k)).flatten.length + l.length ≤ 1000000000 := by
        have h1 := rowsL_le rs (k + 1)
        have h2 : (rowsL rs).flatten.length ≤ 100000000 := HTOT.out
        rw [HT.out, List.length_append] at h1
        omega
      clear hlk
      generalize (rowsL (rs.take k)).flatten = acc at *
      cases ra with
      | none =>
        obtain rfl : rc = 0 := hok.nil rfl
        obtain rfl : l = [] := by
          rcases Nat.eq_zero_or_pos l.length with e | e
          · exact List.length_eq_zero_iff.1 e
          · obtain ⟨_, _, e', _⟩ := hok.sl e; cases e'
        clear hok hle
        go_wp2_with (at_builtin; refine wpList_append_own_none rfl _ _ 43 rfl w.heap.size 47 ip 2 Tryd.underlying43 hpi _ _ _ rfl hown.2 rfl ?_)
        go_wp2
        go_roundw
        case rel => exact ⟨k + 1, by omega, by go_num, by rw [HT.out]; simpa using hown, hbl⟩
        case measure => (simp [intOf]; try omega)
      | some ad =>
        have hnews := Sl.cellsA encP_len (by decide) hok.sl
        have HN := hide hnews
        clear hnews hok
        go_wp2_with (at_builtin; refine wpList_append_list encP_len _ _ 43 ip _ rfl rfl Tryd.underlying43 hpi hpz0 hpz1 hpz2 rfl (by decide) (by decide) hown hbl hbl.size l hle rfl ad rc l.length rfl rfl HN.out (one_flat one_pair) ?_)
        intro v' w1 ho hb _ _
        have HO := hide ho
        clear ho hown
        go_wp2
        go_roundw
        case rel => exact ⟨k + 1, by omega, by go_num, by rw [HT.out]; exact HO.out, hb⟩
        case measure => (simp [intOf]; try omega)
    · obtain rfl : k = rs.length := by omega
      rw [List.take_length] at hown
      have hle : (rowsL rs).flatten.length ≤ 100000000 := HTOT.out
      clear HTOT HROW
      obtain ⟨F, hF⟩ : ∃ F, F = (rowsL rs).flatten := ⟨_, rfl⟩
      rw [← hF] at hown hle
      have HF := hide hF
      clear hF
      obtain ⟨⟨ao', cp, rfl⟩, _⟩ := id hown
      have hS := hide (RefSorted_any ao' cp F wr (by omega) (hown.sl encP_len))
      clear hown
      go_wp2_with fail
      refine hS.out.mono ?_
      rintro e w1 ⟨v, rfl, o1, b1⟩
      have HO := hide o1
      clear o1
      go_wp2
      go_ret
      exact ⟨v, rfl, by rw [← HF.out]; exact HO.out.base_le hbl.size, hbl.trans (b1.mono hbl.size)⟩
end Go.Proofs.YtkodbldfoldbjaaDoor
