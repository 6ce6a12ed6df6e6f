/- folder: New. -/
import Derived.Test.YtgeedjlbajmdkaaGreatDoorMerge
import Derived.Laws.AppendOwnNone
import Derived.Test.YtgeedjlbajmdkaaGreatDoorPair4
import Derived.Test.YtgeedjlbajmdkaaGreatDoorFolder
set_option linter.unusedSimpArgs false
set_option linter.unusedVariables false
/- Slices of slices of pairs: from the form's reading. -/
namespace Go.Proofs.YtgeedjlbajmdkaaGreatDoor
open Go.RowKit Go.ChangeShapes Go.WideShapes Go.ChangeAt

/-- as open_sl, of cells -/
theorem open_slc {H : Type} {enc0 : TypeId × Value → H} {P : Program} {w : World} {t e : TypeId} {sz : Nat} {α : Type} [Inhabited α] {enc : α → List Value} {ok : α → Prop}
    (ht : P.underlying t = some (.slice e)) (hsz : P.cellsOf e = sz) (h0 : 0 < sz)
    (hel : ∀ fuel cs x, DataW.trod enc0 P w 0 (fun _ => true) true fuel e cs = some x → ∃ a, cs = enc a ∧ ok a)
    {cs : List Value} {x : DataW H × List MemPlace} {fuel : Nat} (hf : DataW.trod enc0 P w 0 (fun _ => true) true fuel t cs = some x) :
    ∃ ao cap, ∃ l : List α, cs = [.slice ao l.length cap] ∧ (ao = none → cap = 0) ∧ Sl sz enc w ao l ∧ l.length ≤ maxLen ∧ ∀ x ∈ l, ok x := by
  rcases Deep.open_slice ht hf with ⟨hcs, _⟩ | ⟨a', len', cap', m, n, D, Pl, hcs, _, hl, hm, hmm, _, hall⟩
  · subst hcs
    exact ⟨none, 0, [], rfl, fun _ => rfl, Sl.nil, by simp, by simp⟩
  · subst hcs
    have hm' : len' ≤ m := by rw [hmm]; split <;> omega
    obtain ⟨f, hfx⟩ := Deep.choose_lt (n := len') (p := fun i (x : α) => w.cells? 0 (a'.add (i * sz)) sz = some (enc x) ∧ ok x) (fun i hi => by
      obtain ⟨cs', h1, h2⟩ := hall i (by omega)
      obtain ⟨x, hx, hok⟩ := hel _ _ _ h2
      rw [hsz] at h1
      exact ⟨x, by rw [← hx]; exact h1, hok⟩)
    refine ⟨some a', cap', (List.range len').map f, by simp, (fun h => by cases h), ?_, by simp; omega, fun x hx => ?_⟩
    · intro hpos
      have hpos' : 0 < len' := by simpa using hpos
      obtain ⟨b, off, sp⟩ := a'
      obtain ⟨c0, c1⟩ := cells_cell (hfx 0 hpos').1
      obtain ⟨v0, hv0⟩ : ∃ v, (enc (f 0))[0]? = some v := by
        rw [List.getElem?_eq_getElem (by omega)]; exact ⟨_, rfl⟩
      have hc0 := c1 0 v0 hv0
      have hsp : sp = none := by
        have := World.cell?_spot hc0
        simpa [Addr.add] using this
      subst hsp
      refine ⟨b, off, rfl, ?_, fun i x j v hi hj => ?_⟩
      · have := World.block_lt_of_cell? w _ hc0
        rw [add_at _ _ _ _ rfl, add_at _ _ _ _ rfl] at this
        exact this
      · have hi' : i < len' := by
          have := (List.getElem?_eq_some_iff.1 hi).1
          simpa using this
        have hx : f i = x := by
          rw [List.getElem?_map, List.getElem?_range hi'] at hi
          simpa using hi
        subst hx
        have := (cells_cell (hfx i hi').1).2 j v hj
        rw [add_at _ _ _ _ rfl, add_at _ _ _ _ rfl] at this
        exact this
    · obtain ⟨i, hi, rfl⟩ := List.mem_map.1 hx
      exact (hfx i (by simpa using hi)).2
/-- a row that can be read -/
structure RowOk (w : World) (r : RowP) : Prop where
  nil : r.1 = none → r.2.1 = 0
  sl : Sl 2 encP w r.1 r.2.2
  len : r.2.2.length ≤ maxLen
theorem RowOk.later {w w' : World} {r : RowP} {B : Nat} (h : RowOk w r) (hb : Below B w w') (hB : w.heap.size ≤ B) : RowOk w' r := ⟨h.nil, h.sl.later hb hB, h.len⟩
theorem cells_rowp : Tryz.prog.cellsOf 53 = 1 := by kernel_rfl
theorem el_rowp {H : Type} {enc0 : TypeId × Value → H} {w : World} (fuel : Nat) (cs : List Value) (x) (h : DataW.trod enc0 Tryz.prog w 0 (fun _ => true) true fuel 53 cs = some x) : ∃ a : RowP, cs = encRow a ∧ (RowOk w a ∧ ∀ p ∈ a.2.2, p.1.size ≤ maxLen ∧ -9223372036854775808 ≤ p.2 ∧ p.2 ≤ 9223372036854775807) := by
  obtain ⟨ao, cap, l, rfl, h1, h2, h3, h4⟩ := open_slc Tryz.underlying53 cells_pair (by decide) el_pair h
  exact ⟨(ao, cap, l), rfl, ⟨h1, h2, h3⟩, h4⟩

theorem rowsL_take {rs : List RowP} {k : Nat} {a : Option Addr} {c : Nat} {l : List Pr} (h : rs[k]? = some (a, c, l)) : (rowsL (rs.take (k + 1))).flatten = (rowsL (rs.take k)).flatten ++ l := by
  obtain ⟨hlt, hx⟩ := List.getElem?_eq_some_iff.1 h
  rw [List.take_succ_eq_append_getElem hlt, hx]
  unfold rowsL
  rw [List.map_append, List.flatten_append]
  simp
theorem rowsL_le (rs : List RowP) (k : Nat) : (rowsL (rs.take k)).flatten.length ≤ (rowsL rs).flatten.length := by
  conv => rhs; rw [← List.take_append_drop k rs]
  unfold rowsL
  rw [List.map_append, List.flatten_append, List.length_append]
  omega
end Go.Proofs.YtgeedjlbajmdkaaGreatDoor
/- Small laws of pairs that several walks use. -/
namespace Go.Proofs.YtgeedjlbajmdkaaGreatDoor
open Go.RowKit

theorem textP_small : ∀ (l : List Pr), (∀ p ∈ l, p.1.size ≤ 60 ∧ -9223372036854775808 ≤ p.2 ∧ p.2 ≤ 9223372036854775807) → (textP l).length ≤ 103 * l.length
  | [], _ => Nat.le_refl _
  | p :: l, h => by
    have h1 := h p List.mem_cons_self
    have h3 := textP_small l fun x hx => h x (List.mem_cons_of_mem _ hx)
    have h4 : (Lib.itoa (p.1.size : Int)).length ≤ 20 := itoa_len (by omega) (by omega)
    have h5 : (Lib.itoa p.2).length ≤ 20 := itoa_len h1.2.1 h1.2.2
    rw [show textP (p :: l) = lineP p ++ textP l from rfl, List.length_append, List.length_cons]
    unfold lineP
    simp only [List.length_append, List.length_cons, List.length_nil, tl_len]
    omega
theorem light_of {l : List Pr} {m : Int} (h : lightPairs l m = true) : (l.length : Int) ≤ m ∧ ∀ p ∈ l, p.1.size ≤ 60 := by
  simp only [lightPairs, Bool.and_eq_true, decide_eq_true_eq, List.all_eq_true, shortKey] at h
  exact h
theorem rise_at {l : List Pr} (h : Rise l) {k : Nat} {a b : Pr} (ha : l[k]? = some a) (hb : l[k + 1]? = some b) : Op.bytesLess b.1.toList a.1.toList = false := by
  obtain ⟨h1, e1⟩ := List.getElem?_eq_some_iff.1 ha
  obtain ⟨h2, e2⟩ := List.getElem?_eq_some_iff.1 hb
  have := (List.pairwise_iff_getElem.1 h) k (k + 1) h1 h2 (by omega)
  rw [e1, e2] at this
  exact this
theorem rises_rise {l : List Pr} (h : rises l = true) : Rise l := by
  have hadj : ∀ (i : Nat) x y, l[i]? = some x → l[i + 1]? = some y → klt y x = false := by
    intro i x y hx hy
    unfold rises upTo at h
    have h2 := List.all_eq_true.1 h i (List.mem_range.2 (List.getElem?_eq_some_iff.1 hx).1)
    rw [hx, hy] at h2
    simpa [klt] using h2
  refine List.pairwise_iff_getElem.2 fun i j hi hj hij => ?_
  have key : ∀ d, ∀ (hj : i + 1 + d < l.length), klt l[i + 1 + d] l[i] = false := by
    intro d
    induction d with
    | zero => intro hj; exact hadj i _ _ (List.getElem?_eq_getElem hi) (List.getElem?_eq_getElem hj)
    | succ d ih =>
      intro hj
      exact kle_trans (ih (by omega)) (hadj (i + 1 + d) _ _ (List.getElem?_eq_getElem (by omega)) (List.getElem?_eq_getElem hj))
  have := key (j - (i + 1)) (by omega)
  simpa [show i + 1 + (j - (i + 1)) = j by omega] using this
theorem flat_len_le {ls : List (List Pr)} {n k : Nat} (h : ∀ l ∈ ls, l.length ≤ n) (hk : ls.length ≤ k) : ls.flatten.length ≤ k * n := by
  induction ls generalizing k with
  | nil => simp
  | cons a ls ih =>
    obtain ⟨k, rfl⟩ : ∃ m, k = m + 1 := ⟨k - 1, by simp at hk; omega⟩
    have h1 := ih (fun l hl => h l (List.mem_cons_of_mem _ hl)) (k := k) (by simpa using hk)
    have h2 := h a List.mem_cons_self
    rw [List.flatten_cons, List.length_append, Nat.succ_mul]
    omega
end Go.Proofs.YtgeedjlbajmdkaaGreatDoor
namespace Go.Proofs.YtgeedjlbajmdkaaGreatDoor
open Go.RowKit

set_option maxHeartbeats 1000000 in
theorem New_bad (kind : Int) (ao : Option Addr) (cap n : Nat) (w : World) (hk : kindFault kind ≠ 0) :
    Calls Tryz.prog 32 #[.int .i64 kind, .slice ao n cap] w fun e w' => e = .returned (.tuple #[.pointer none, errV (kindFault kind)]) ∧ w = w' := by
  have HX := hide (foldCheck_any kind w)
  rw [errV_pos hk] at HX ⊢
  generalize kindFault kind = f at *
  clear hk
  go_enter Tryz.func32, Tryz.ntmps32
  go_wp2_with fail
  refine HX.out.mono ?_
  rintro e w1 ⟨rfl, rfl⟩
  clear HX
  go_wp2
  go_ret2
  exact ⟨rfl, rfl⟩
set_option maxHeartbeats 1000000 in
theorem New_any (kind : Int) (ao : Option Addr) (cap : Nat) (rs : List RowP) (w : World) (hk : kindFault kind = 0) (hl : rs.length ≤ 100000) (htot : (rowsL rs).flatten.length ≤ 100000000) (hr : ∀ l ∈ rowsL rs, Rise l) (hs : Sl 1 encRow w ao rs) (hrow : ∀ r ∈ rs, Sl 2 encP w r.1 r.2.2) :
    Calls Tryz.prog 32 #[.int .i64 kind, .slice ao rs.length cap] w fun e w' => (∃ g la lc, e = .returned (.tuple #[.pointer (some ⟨g, 0, none⟩), .nilIface]) ∧ RunAt w' w.heap.size g kind (srt (rowsL rs).flatten) 0 [] la lc (.slice none 0 0) ∧ ∀ b o, la = some ⟨b, o, none⟩ → w.heap.size ≤ b ∧ b < w'.heap.size) ∧ Below w.heap.size w w' := by
  have HX := hide (foldCheck_any kind w)
  rw [hk, errV_zero] at HX
  have HM := hide (Merge_any ao cap rs w hl htot hr hs hrow)
  generalize srt (rowsL rs).flatten = L at *
  clear hk hl htot hr hs hrow
  go_enter Tryz.func32, Tryz.ntmps32
  go_wp2_with fail
  refine HX.out.mono ?_
  rintro e w1 ⟨rfl, rfl⟩
  clear HX
  go_wp2_with fail
  refine HM.out.mono ?_
  rintro e w2 ⟨v, rfl, o2, b2⟩
  obtain ⟨la, lc, rfl⟩ := id o2.1
  have hba : Below w2.heap.size w2 (w2.alloc (.cells #[.int .i64 kind, .slice la L.length lc, .int .i64 0, .slice none 0 0] 125)) := (Below.refl _ _).alloc (Nat.le_refl _) _
  have hRA : RunAt (w2.alloc (.cells #[.int .i64 kind, .slice la L.length lc, .int .i64 0, .slice none 0 0] 125)) w.heap.size w2.heap.size kind L 0 [] la lc (.slice none 0 0) := by
    refine ⟨Bk.new rfl, b2.size, (o2.sl encP_len).later hba (Nat.le_refl _), Own.nil, ⟨by simp [Value.ownBlock], ?_⟩, Nat.zero_le _⟩
    rintro b off rfl
    have := (o2.lt b rfl).2
    exact ⟨by omega, by simp [Value.ownBlock]⟩
  have HLA : Hid (∀ b o, la = some ⟨b, o, none⟩ → w.heap.size ≤ b ∧ b < (w2.alloc (.cells #[.int .i64 kind, .slice la L.length lc, .int .i64 0, .slice none 0 0] 125)).heap.size) := by
    rintro b o rfl
    have h1 := o2.lt b rfl
    have h2 := hba.size
    omega
  have HRA := hide hRA
  have HB := hide (b2.trans (hba.mono b2.size))
  clear HM o2 b2 hba hRA
  go_wp2
  go_ret2
  exact ⟨⟨_, _, _, rfl, HRA.out, HLA.out⟩, HB.out⟩
end Go.Proofs.YtgeedjlbajmdkaaGreatDoor
