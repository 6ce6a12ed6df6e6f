/- The law of the bench: two arrays, and the rows they stand for. -/
import Derived.Test.YtidhjpjeehoglaaBench6
namespace Go.Proofs.Ytidhjpjeehoglaa
open Go.RowKit

abbrev TaskV := Int × Bool × Int
def encT (t : TaskV) : List Value := [.int .i64 t.1, .bool t.2.1, .int .i64 t.2.2]
theorem encT_len (t : TaskV) : (encT t).length = 3 := rfl
/-- the slot that places k of the arrays stand for -/
def slotOf (O : List Bool) (I : List TaskV) (k : Nat) : SlotV := if O.getD k false then (true, I.getD k (0, false, 0)) else noSlot
def tab (O : List Bool) (I : List TaskV) (ws n : Nat) : List (List SlotV) := (List.range ws).map fun i => (List.range n).map fun j => slotOf O I (i * n + j)
theorem tab_row {O : List Bool} {I : List TaskV} {ws n i : Nat} (hi : i < ws) : (tab O I ws n)[i]? = some ((List.range n).map fun j => slotOf O I (i * n + j)) := by
  unfold tab; rw [List.getElem?_map, List.getElem?_range hi]; rfl
theorem tab_slot {O : List Bool} {I : List TaskV} {n i j : Nat} (hj : j < n) : ((List.range n).map fun j => slotOf O I (i * n + j))[j]? = some (slotOf O I (i * n + j)) := by
  rw [List.getElem?_map, List.getElem?_range hj]; rfl
theorem pos_inj {n i j i' j' : Nat} (hj : j < n) (hj' : j' < n) (h : i * n + j = i' * n + j') : i = i' ∧ j = j' := by
  have e1 : (i * n + j) / n = i := by rw [Nat.add_comm, Nat.add_mul_div_right _ _ (by omega), Nat.div_eq_of_lt hj]; omega
  have e2 : (i' * n + j') / n = i' := by rw [Nat.add_comm, Nat.add_mul_div_right _ _ (by omega), Nat.div_eq_of_lt hj']; omega
  have : i = i' := by rw [← e1, ← e2, h]
  subst this
  exact ⟨rfl, by omega⟩
/-- one slot changed -/
theorem tab_set {O O' : List Bool} {I I' : List TaskV} {ws n a b : Nat} (ha : a < ws) (hb : b < n) (h : ∀ k, k ≠ a * n + b → slotOf O' I' k = slotOf O I k) :
    (tab O I ws n).set a (((List.range n).map fun j => slotOf O I (a * n + j)).set b (slotOf O' I' (a * n + b))) = tab O' I' ws n := by
  apply List.ext_getElem?
  intro i
  by_cases hi : i < ws
  · rw [tab_row hi]
    by_cases e : a = i
    · subst e
      rw [List.getElem?_set_self (by unfold tab; simpa using ha)]
      congr 1
      apply List.ext_getElem?
      intro j
      by_cases hj : j < n
      · rw [List.getElem?_map, List.getElem?_range hj]
        by_cases e : b = j
        · subst e
          rw [List.getElem?_set_self (by simpa using hj)]; rfl
        · rw [List.getElem?_set_ne e, tab_slot hj]
          show some (slotOf O I (a * n + j)) = some (slotOf O' I' (a * n + j))
          rw [h _ (fun h' => e (pos_inj hj hb h').2.symm)]
      · rw [List.getElem?_eq_none (by simp; omega), List.getElem?_eq_none (by simp; omega)]
    · rw [List.getElem?_set_ne e, tab_row hi]
      congr 1
      apply List.map_congr_left
      intro j hj
      exact (h _ (fun h' => e (pos_inj (List.mem_range.1 hj) hb h').1.symm)).symm
  · rw [List.getElem?_eq_none (by simp [tab]; omega), List.getElem?_eq_none (by simp [tab]; omega)]
theorem slot_put {O : List Bool} {I : List TaskV} {p : Nat} (t : TaskV) (ho : p < O.length) (hi : p < I.length) :
    slotOf (O.set p true) (I.set p t) p = (true, t) ∧ ∀ k, k ≠ p → slotOf (O.set p true) (I.set p t) k = slotOf O I k := by
  refine ⟨?_, fun k hk => ?_⟩
  · unfold slotOf
    simp [List.getD_eq_getElem?_getD, ho, hi]
  · unfold slotOf
    simp only [List.getD_eq_getElem?_getD, List.getElem?_set_ne (Ne.symm hk)]
theorem slot_free {O : List Bool} {I : List TaskV} {p : Nat} (ho : p < O.length) :
    slotOf (O.set p false) I p = noSlot ∧ ∀ k, k ≠ p → slotOf (O.set p false) I k = slotOf O I k := by
  refine ⟨?_, fun k hk => ?_⟩
  · unfold slotOf
    simp [List.getD_eq_getElem?_getD, ho]
  · unfold slotOf
    simp only [List.getD_eq_getElem?_getD, List.getElem?_set_ne (Ne.symm hk)]
theorem slotOf_on {O : List Bool} {I : List TaskV} {k : Nat} (h : O.getD k false = true) : slotOf O I k = (true, I.getD k (0, false, 0)) := by unfold slotOf; rw [if_pos h]
theorem slotOf_off {O : List Bool} {I : List TaskV} {k : Nat} (h : O.getD k false = false) : slotOf O I k = noSlot := by unfold slotOf; rw [if_neg (by rw [h]; simp)]
/-- all slots in order -/
theorem tab_flat (O : List Bool) (I : List TaskV) (ws n : Nat) : (tab O I ws n).flatten = (List.range (ws * n)).map (slotOf O I) := by
  induction ws with
  | zero => simp [tab]
  | succ ws ih =>
    have : tab O I (ws + 1) n = tab O I ws n ++ [(List.range n).map fun j => slotOf O I (ws * n + j)] := by unfold tab; rw [List.range_succ, List.map_append]; rfl
    rw [this, List.flatten_append, ih, Nat.succ_mul, List.range_add, List.map_append, List.map_map]
    simp [Function.comp_def]
/-- what is counted, and whether t runs, among the first k slots -/
def cntTo (O : List Bool) (I : List TaskV) (k : Nat) : List Int := ((List.range k).map (slotOf O I)).foldl (countIn wh5) [0, 0, 0]
def runTo (t : TaskV) (O : List Bool) (I : List TaskV) (k : Nat) : Bool := ((List.range k).map (slotOf O I)).any fun s => s == (true, t)
theorem cntTo_succ (O : List Bool) (I : List TaskV) (k : Nat) : cntTo O I (k + 1) = countIn wh5 (cntTo O I k) (slotOf O I k) := by unfold cntTo; rw [List.range_succ, List.map_append, List.foldl_append]; rfl
theorem runTo_succ (t : TaskV) (O : List Bool) (I : List TaskV) (k : Nat) : runTo t O I (k + 1) = (runTo t O I k || (slotOf O I k == (true, t))) := by unfold runTo; rw [List.range_succ, List.map_append, List.any_append]; simp
theorem cntTo_end (O : List Bool) (I : List TaskV) (ws n : Nat) : countT wh5 3 (tab O I ws n) = cntTo O I (ws * n) := by unfold countT cntTo; rw [tab_flat]; rfl
theorem runTo_end (t : TaskV) (O : List Bool) (I : List TaskV) (ws n : Nat) : runsT t (tab O I ws n) = runTo t O I (ws * n) := by
  unfold runsT runTo
  rw [← tab_flat]
  generalize tab O I ws n = T
  induction T with
  | nil => rfl
  | cons a T ih => rw [List.any_cons, ih, List.flatten_cons, List.any_append]; rfl
theorem cntTo_len (O : List Bool) (I : List TaskV) (k : Nat) : (cntTo O I k).length = 3 := by unfold cntTo; rw [fold_len]; rfl
theorem cntTo_le (O : List Bool) (I : List TaskV) (k : Nat) : ∀ x ∈ cntTo O I k, 0 ≤ x ∧ x ≤ k := by
  intro x hx
  have := fold_le wh5 ((List.range k).map (slotOf O I)) [0, 0, 0] 0 (fun y hy => by simp at hy; omega) x hx
  simpa using this
/-- the first free one of a worker's slots -/
theorem freeAt_tab (O : List Bool) (I : List TaskV) (n i : Nat) : freeAt ((List.range n).map fun j => slotOf O I (i * n + j)) = firstI (fun j => !O.getD (i * n + j) false) (List.range n) := by
  unfold freeAt firstI
  rw [List.findIdx?_map]
  have : ((fun s : SlotV => !s.1) ∘ fun j => slotOf O I (i * n + j)) = fun j => !O.getD (i * n + j) false := by
    funext j
    show (!(slotOf O I (i * n + j)).1) = _
    unfold slotOf
    cases O.getD (i * n + j) false <;> rfl
  rw [this]
/-- searched downwards through the last d of n places: the least one that is p; -1: none is -/
def lowF (p : Nat → Bool) (n : Nat) : Nat → Int
  | 0 => -1
  | d + 1 => if p (n - d - 1) then ((n - d - 1 : Nat) : Int) else lowF p n d
theorem lowF_spec (p : Nat → Bool) (n : Nat) : ∀ d, d ≤ n → (lowF p n d = -1 ∧ ∀ j, n - d ≤ j → j < n → p j = false) ∨ ∃ j : Nat, lowF p n d = j ∧ n - d ≤ j ∧ j < n ∧ p j = true ∧ ∀ i, n - d ≤ i → i < j → p i = false
  | 0, _ => .inl ⟨rfl, fun j h1 h2 => by omega⟩
  | d + 1, h => by
    unfold lowF
    by_cases hp : p (n - d - 1) = true
    · rw [if_pos hp]
      exact .inr ⟨_, rfl, by omega, by omega, hp, fun i h1 h2 => by omega⟩
    · rw [if_neg hp]
      have hp' : p (n - d - 1) = false := by simpa using hp
      rcases lowF_spec p n d (by omega) with ⟨h1, h2⟩ | ⟨j, h1, h2, h3, h4, h5⟩
      · exact .inl ⟨h1, fun j h3 h4 => by
          by_cases e : j = n - d - 1
          · rw [e]; exact hp'
          · exact h2 j (by omega) h4⟩
      · exact .inr ⟨j, h1, by omega, h3, h4, fun i h6 h7 => by
          by_cases e : i = n - d - 1
          · rw [e]; exact hp'
          · exact h5 i (by omega) h7⟩
theorem lowF_first (p : Nat → Bool) (n : Nat) : lowF p n n = firstI p (List.range n) := by
  rcases lowF_spec p n n (Nat.le_refl _) with ⟨h1, h2⟩ | ⟨j, h1, h2, h3, h4, h5⟩
  · rw [h1, firstI_none]
    intro i y hi hy
    rw [List.length_range] at hi
    rw [List.getElem?_range hi] at hy
    cases hy
    exact h2 i (by omega) hi
  · rw [h1, firstI_some (x := j) (by rw [List.getElem?_range h3]) h4]
    intro i y hi hy
    rw [List.getElem?_range (by omega)] at hy
    cases hy
    exact h5 i (by omega) hi

theorem Bk.set {w : World} {b k : Nat} {cs : List Value} {u : Value} (h : Bk w b cs) (v : Value) (hk : cs[k]? = some u) : Bk (w.setCell ⟨b, k, none⟩ v) b (cs.set k v) := by
  refine ⟨by simpa [World.setCell] using h.1, fun j x hj => ?_, fun j => by rw [World.frozen?_setCell]; exact h.2.2 j⟩
  by_cases e : k = j
  · subst e
    rw [List.getElem?_set_self (List.getElem?_eq_some_iff.1 hk).1] at hj
    cases hj
    exact cellSetS (h.get hk)
  · rw [List.getElem?_set_ne e] at hj
    exact cellSetO (h.get hj) (fun e' => e (by cases e'; rfl))
theorem Bk.setO {w : World} {b : Nat} {cs : List Value} (h : Bk w b cs) {p : Addr} (hp : p.block ≠ b) (v : Value) : Bk (w.setCell p v) b cs :=
  h.kept (S := fun q => q = p.block) ((KeptBut.refl (fun q => q = p.block) w).setCell rfl v) (fun e => hp e.symm)
theorem boolAt {w : World} {b k : Nat} {O : List Bool} (h : Bk w b (O.map .bool)) (hk : k < O.length) : w.cell? ⟨b, k, none⟩ = some (.bool (O.getD k false)) := by
  refine h.get ?_
  rw [List.getElem?_map, List.getElem?_eq_getElem hk, List.getD_eq_getElem?_getD, List.getElem?_eq_getElem hk]; rfl
theorem boolSet {w : World} {b k : Nat} {O : List Bool} (h : Bk w b (O.map .bool)) (hk : k < O.length) (v : Bool) : Bk (w.setCell ⟨b, k, none⟩ (.bool v)) b ((O.set k v).map .bool) := by
  rw [List.map_set]
  exact h.set (u := .bool O[k]) _ (by rw [List.getElem?_map, List.getElem?_eq_getElem hk]; rfl)
theorem taskAt {w : World} {b k : Nat} {I : List TaskV} (h : Bk w b (I.flatMap encT)) (hk : k < I.length) :
    w.cell? ⟨b, k * 3, none⟩ = some (.int .i64 (I.getD k (0, false, 0)).1) ∧ w.cell? ⟨b, k * 3 + 1, none⟩ = some (.bool (I.getD k (0, false, 0)).2.1) ∧ w.cell? ⟨b, k * 3 + 2, none⟩ = some (.int .i64 (I.getD k (0, false, 0)).2.2) := by
  have hI : I[k]? = some (I.getD k (0, false, 0)) := by rw [List.getD_eq_getElem?_getD, List.getElem?_eq_getElem hk]; rfl
  exact ⟨h.get (flat_get encT_len (j := 0) hI rfl), h.get (flat_get encT_len (j := 1) hI rfl), h.get (flat_get encT_len (j := 2) hI rfl)⟩
def setT (w : World) (b k : Nat) (t : TaskV) : World := ((w.setCell ⟨b, k * 3, none⟩ (.int .i64 t.1)).setCell ⟨b, k * 3 + 1, none⟩ (.bool t.2.1)).setCell ⟨b, k * 3 + 2, none⟩ (.int .i64 t.2.2)
theorem setT_kept (w : World) (b k : Nat) (t : TaskV) : KeptBut (fun q => q = b) w (setT w b k t) :=
  (((KeptBut.refl (fun q => q = b) w).setCell (p := ⟨b, k * 3, none⟩) rfl _).setCell (p := ⟨b, k * 3 + 1, none⟩) rfl _).setCell (p := ⟨b, k * 3 + 2, none⟩) rfl _
theorem taskSet {w : World} {b k : Nat} {I : List TaskV} (h : Bk w b (I.flatMap encT)) (hk : k < I.length) (t : TaskV) : Bk (setT w b k t) b ((I.set k t).flatMap encT) := by
  obtain ⟨t0, t1, t2⟩ := t
  obtain ⟨x, hx⟩ : ∃ x, I[k]? = some x := ⟨I[k], List.getElem?_eq_getElem hk⟩
  obtain ⟨x0, x1, x2⟩ := x
  have h0 := h.set (u := .int .i64 x0) (.int .i64 t0) (flat_get encT_len (j := 0) hx rfl)
  rw [Nat.add_zero, ← Nat.add_zero (k * 3), ← flat_set (y := (t0, x1, x2)) encT_len hx (by decide) rfl, Nat.add_zero] at h0
  have hx1 : (I.set k (t0, x1, x2))[k]? = some (t0, x1, x2) := List.getElem?_set_self hk
  have h1 := h0.set (u := .bool x1) (.bool t1) (flat_get encT_len (j := 1) hx1 rfl)
  rw [← flat_set (y := (t0, t1, x2)) encT_len hx1 (by decide) rfl, List.set_set] at h1
  have hx2 : (I.set k (t0, t1, x2))[k]? = some (t0, t1, x2) := List.getElem?_set_self hk
  have h2 := h1.set (u := .int .i64 x2) (.int .i64 t2) (flat_get encT_len (j := 2) hx2 rfl)
  rw [← flat_set (y := (t0, t1, t2)) encT_len hx2 (by decide) rfl, List.set_set] at h2
  exact h2
end Go.Proofs.Ytidhjpjeehoglaa
