/- slices.Clone at pairs; the reference Sorted. -/
import Derived.Test.YtgeedjlbajmdkaaGreatDoorSort2
import Derived.Test.YtgeedjlbajmdkaaGreatDoorWords
import Derived.Lib.SliceRun
set_option linter.unusedSimpArgs false
set_option linter.unusedVariables false
/- Pairs sorted in place: the merge of two runs: plain laws of the search. -/
namespace Go.Proofs.YtgeedjlbajmdkaaGreatDoor
open Go.RowKit

def el (l : List Pr) (k : Nat) : Pr := l.getD k (⟨#[]⟩, 0)
theorem el_of {l : List Pr} {k : Nat} {x : Pr} (h : l[k]? = some x) : el l k = x := by unfold el; rw [List.getD_eq_getElem?_getD, h]; rfl
theorem el_get {l : List Pr} {k : Nat} (h : k < l.length) : l[k]? = some (el l k) := by unfold el; rw [List.getD_eq_getElem?_getD, List.getElem?_eq_getElem h]; rfl
/-- a search's ends: ahead of i it is so, at j it is not -/
def Ends (p : Nat → Bool) (lo hi i j : Nat) : Prop := lo ≤ i ∧ i ≤ j ∧ j ≤ hi ∧ (i = lo ∨ p (i - 1) = true) ∧ (j = hi ∨ p j = false)
theorem Ends.start (p : Nat → Bool) {lo hi : Nat} (h : lo ≤ hi) : Ends p lo hi lo hi := ⟨Nat.le_refl _, h, Nat.le_refl _, .inl rfl, .inl rfl⟩
theorem Ends.up {p : Nat → Bool} {lo hi i j h : Nat} (e : Ends p lo hi i j) (h1 : i ≤ h) (h2 : h < j) (hp : p h = true) : Ends p lo hi (h + 1) j := by
  obtain ⟨a, b, c, d, f⟩ := e
  exact ⟨by omega, by omega, c, .inr (by simpa using hp), f⟩
theorem Ends.down {p : Nat → Bool} {lo hi i j h : Nat} (e : Ends p lo hi i j) (h1 : i ≤ h) (h2 : h < j) (hp : p h = false) : Ends p lo hi i h := by
  obtain ⟨a, b, c, d, f⟩ := e
  exact ⟨a, by omega, by omega, d, .inr hp⟩
theorem seg_get {l : List Pr} {a b k : Nat} (h : a + k < b) : (seg l a b)[k]? = l[a + k]? := by
  unfold seg; rw [List.getElem?_take_of_lt (by omega), List.getElem?_drop]
theorem mem_seg {l : List Pr} {a b : Nat} {y : Pr} (h : y ∈ seg l a b) : ∃ k, a ≤ k ∧ k < b ∧ l[k]? = some y := by
  obtain ⟨i, hi⟩ := List.getElem?_of_mem h
  have hlt := (List.getElem?_eq_some_iff.1 hi).1
  have : i < b - a := by unfold seg at hlt; rw [List.length_take] at hlt; omega
  rw [seg_get (by omega)] at hi
  exact ⟨a + i, by omega, by omega, hi⟩
theorem rise_get {l : List Pr} {a b i j : Nat} {x y : Pr} (h : Rise (seg l a b)) (hi : a ≤ i) (hij : i ≤ j) (hj : j < b) (hx : l[i]? = some x) (hy : l[j]? = some y) : klt y x = false := by
  by_cases e : i = j
  · subst e; rw [hx] at hy; cases hy; exact klt_irrefl _
  · have h1 : (seg l a b)[i - a]? = some x := by rw [seg_get (by omega), show a + (i - a) = i by omega]; exact hx
    have h2 : (seg l a b)[j - a]? = some y := by rw [seg_get (by omega), show a + (j - a) = j by omega]; exact hy
    obtain ⟨l1, e1⟩ := List.getElem?_eq_some_iff.1 h1
    obtain ⟨l2, e2⟩ := List.getElem?_eq_some_iff.1 h2
    have := List.pairwise_iff_getElem.1 h (i - a) (j - a) l1 l2 (by omega)
    rw [e1, e2] at this
    exact this
theorem ends_all {l : List Pr} {lo hi i : Nat} {q : Pr → Bool} (e : Ends (fun k => q (el l k)) lo hi i i) (hr : Rise (seg l lo hi)) (hl : hi ≤ l.length) (hq : ∀ y z, klt z y = false → q z = true → q y = true) :
    (∀ y ∈ seg l lo i, q y = true) ∧ ∀ y ∈ seg l i hi, q y = false := by
  obtain ⟨h1, _, h3, h4, h5⟩ := e
  refine ⟨fun y hy => ?_, fun y hy => ?_⟩
  · obtain ⟨k, k1, k2, hk⟩ := mem_seg hy
    rcases h4 with h4 | h4
    · omega
    · exact hq y (el l (i - 1)) (rise_get hr k1 (by omega) (by omega) hk (el_get (by omega))) h4
  · obtain ⟨k, k1, k2, hk⟩ := mem_seg hy
    rcases h5 with h5 | h5
    · omega
    · cases hc : q y
      · rfl
      · have := hq (el l i) y (rise_get hr h1 k1 k2 (el_get (by omega)) hk) hc
        have h5' : q (el l i) = false := h5
        rw [h5'] at this; cases this
theorem seg_append {l : List Pr} {a m b : Nat} (h : a ≤ m) (h2 : m ≤ b) : seg l a m ++ seg l m b = seg l a b := by
  unfold seg
  rw [show b - a = (m - a) + (b - m) by omega, List.take_add, List.drop_drop, show a + (m - a) = m by omega]
theorem seg_one {l : List Pr} {a : Nat} {x : Pr} (h : l[a]? = some x) : seg l a (a + 1) = [x] := by
  have := (seg_succ (Nat.le_refl a) h).1
  rw [this]; unfold seg; simp
theorem parts {l : List Pr} {a m b : Nat} (h : a ≤ m) (h2 : m ≤ b) (hb : b ≤ l.length) : l = l.take a ++ seg l a m ++ seg l m b ++ l.drop b := by
  rw [List.append_assoc (l.take a), seg_append h h2]; exact seg_split l (by omega) hb
/-- one ahead of a run -/
theorem sym_left_law {l : List Pr} {a b i : Nat} {x : Pr} (hx : l[a]? = some x) (hb : b ≤ l.length) (ha : a + 1 ≤ b) (hr : Rise (seg l (a + 1) b)) (e : Ends (fun k => klt (el l k) x) (a + 1) b i i) :
    upBy l a (i - (a + 1)) = sortSeg l a b := by
  obtain ⟨h1, h2⟩ := ends_all (q := fun y => klt y x) e hr hb (fun y z hz hc => kle_klt hz hc)
  have hi1 := e.1
  have hi2 := e.2.2.1
  have hp := parts (l := l) (a := a) (m := a + 1) (b := b) (by omega) ha hb
  have hs := seg_append (l := l) hi1 hi2
  rw [seg_one hx, ← hs] at hp
  have hlen : (l.take a).length = a := by simp; omega
  have hl1 : (seg l (a + 1) i).length = i - (a + 1) := seg_len l hi1 (by omega)
  have hl2 : (seg l i b).length = b - i := seg_len l hi2 hb
  have hS := sortSeg_of (l := l) (A := l.take a) (S := x :: (seg l (a + 1) i ++ seg l i b)) (B := l.drop b) (a := a) (b := b) (by simpa using hp) hlen (by simp; omega)
  rw [hS, ← srt_up (by rw [hs]; exact hr) h1 h2]
  have hu := upBy_at (A := l.take a) (x := x) (a := a) hlen (n := i - (a + 1)) (R := seg l (a + 1) i) (B := seg l i b ++ l.drop b) hl1
  rw [show l.take a ++ x :: (seg l (a + 1) i ++ (seg l i b ++ l.drop b)) = l by simpa using hp.symm] at hu
  rw [hu]; simp
/-- one behind a run -/
theorem sym_right_law {l : List Pr} {a m i : Nat} {x : Pr} (hx : l[m]? = some x) (ha : a ≤ m) (hr : Rise (seg l a m)) (e : Ends (fun k => !klt x (el l k)) a m i i) :
    downBy l m (m - i) = sortSeg l a (m + 1) := by
  have hm := (List.getElem?_eq_some_iff.1 hx).1
  obtain ⟨h1, h2⟩ := ends_all (q := fun y => !klt x y) e hr (by omega) (fun y z hz hc => by
    have hc' : klt x z = false := by simpa using hc
    have := kle_trans hz hc'
    simp [this])
  have hi1 := e.1
  have hi2 := e.2.2.1
  have hp := parts (l := l) (a := a) (m := m) (b := m + 1) ha (by omega) (by omega)
  have hs := seg_append (l := l) hi1 hi2
  rw [seg_one hx, ← hs] at hp
  have hlen : (l.take a).length = a := by simp; omega
  have hl1 : (seg l a i).length = i - a := seg_len l hi1 (by omega)
  have hl2 : (seg l i m).length = m - i := seg_len l hi2 (by omega)
  have hS := sortSeg_of (l := l) (A := l.take a) (S := (seg l a i ++ seg l i m) ++ [x]) (B := l.drop (m + 1)) (a := a) (b := m + 1) (by simpa using hp) hlen (by simp; omega)
  have h1' : ∀ y ∈ seg l a i, klt x y = false := fun y hy => (Bool.not_eq_true' _).mp (h1 y hy)
  have h2' : ∀ y ∈ seg l i m, klt x y = true := fun y hy => (Bool.not_eq_false' _).mp (h2 y hy)
  rw [hS, ← srt_down (by rw [hs]; exact hr) h1' h2']
  have hlA : (l.take a ++ seg l a i).length + (m - i) = m := by rw [List.length_append, hlen, hl1]; omega
  have hu := downBy_at (A := []) (x := x) (B := l.drop (m + 1)) hl2 hlA
  rw [show l.take a ++ seg l a i ++ seg l i m ++ x :: l.drop (m + 1) = l by simpa using hp.symm] at hu
  rw [hu]; simp
/-- two runs, cut at s and at e = mid + m - s -/
theorem sym_cut {l : List Pr} {a m b mid s : Nat} (hmid : mid = (a + b) / 2) (ham : a < m) (hmb : m < b) (hb : b ≤ l.length) (hl : Rise (seg l a m)) (hr : Rise (seg l m b))
    (e : Ends (fun c => !klt (el l (mid + m - 1 - c)) (el l c)) (if mid < m then mid + m - b else a) (if mid < m then mid else m) s s) :
    a ≤ s ∧ s ≤ m ∧ s ≤ mid ∧ m ≤ mid + m - s ∧ mid + m - s ≤ b ∧ (∀ x ∈ seg l m (mid + m - s), ∀ y ∈ seg l s m, klt x y = true) ∧ ∀ x ∈ seg l a s, ∀ y ∈ seg l (mid + m - s) b, klt y x = false := by
  obtain ⟨h1, _, h3, h4, h5⟩ := e
  have g1 : a ≤ s := by split at h1 <;> omega
  have g2 : s ≤ m := by split at h3 <;> omega
  have g3 : s ≤ mid := by split at h3 <;> omega
  have g4 : m ≤ mid + m - s := by omega
  have g5 : mid + m - s ≤ b := by split at h1 <;> omega
  refine ⟨g1, g2, g3, g4, g5, fun x hx y hy => ?_, fun x hx y hy => ?_⟩
  · obtain ⟨i, i1, i2, hi⟩ := mem_seg hx
    obtain ⟨j, j1, j2, hj⟩ := mem_seg hy
    rcases h5 with h5 | h5
    · split at h5 <;> omega
    · have hk : klt (el l (mid + m - 1 - s)) (el l s) = true := by simpa using h5
      have a1 := rise_get hr i1 (show i ≤ mid + m - 1 - s by omega) (by omega) hi (el_get (by omega))
      have a2 := rise_get hl g1 j1 j2 (el_get (by omega)) hj
      exact kle_klt a1 (klt_kle hk a2)
  · obtain ⟨i, i1, i2, hi⟩ := mem_seg hx
    obtain ⟨j, j1, j2, hj⟩ := mem_seg hy
    rcases h4 with h4 | h4
    · split at h4 <;> omega
    · have hk : klt (el l (mid + m - 1 - (s - 1))) (el l (s - 1)) = false := by simpa using h4
      rw [show mid + m - 1 - (s - 1) = mid + m - s by omega] at hk
      have a1 := rise_get hl i1 (show i ≤ s - 1 by omega) (by omega) hi (el_get (by omega))
      have a2 := rise_get hr g4 j1 j2 (el_get (by omega)) hj
      exact kle_trans a1 (kle_trans hk a2)
/-- what the two halves come to once each is sorted -/
theorem sym_halves {l : List Pr} {a m b mid s : Nat} (h1 : a ≤ s) (h2 : s ≤ m) (h3 : s ≤ mid) (h5 : mid + m - s ≤ b) (hab : a < b) (ham : a < m) (hmb : m < b) (hb : b ≤ l.length) (hl : Rise (seg l a m)) (hr : Rise (seg l m b))
    (g1 : ∀ x ∈ seg l m (mid + m - s), ∀ y ∈ seg l s m, klt x y = true) (g2 : ∀ x ∈ seg l a s, ∀ y ∈ seg l (mid + m - s) b, klt y x = false) :
    l.take a ++ srt (seg l a s ++ seg l m (mid + m - s)) ++ srt (seg l s m ++ seg l (mid + m - s) b) ++ l.drop b = sortSeg l a b := by
  have e1 := seg_append (l := l) h1 h2
  have e2 := seg_append (l := l) (show m ≤ mid + m - s by omega) h5
  have := merge_halves (L1 := seg l a s) (L2 := seg l s m) (R1 := seg l m (mid + m - s)) (R2 := seg l (mid + m - s) b) (by rw [e1]; exact hl) (by rw [e2]; exact hr) g1 g2
  unfold sortSeg
  rw [← seg_append (l := l) (show a ≤ m by omega) (show m ≤ b by omega), ← e1, ← e2, ← this]
  simp
end Go.Proofs.YtgeedjlbajmdkaaGreatDoor
/- Pairs sorted in place: blocks that are merged two by two: the plain law. -/
namespace Go.Proofs.YtgeedjlbajmdkaaGreatDoor
open Go.RowKit

theorem seg_out {l : List Pr} {a b : Nat} (h : l.length ≤ b) : seg l a b = l.drop a := by
  unfold seg; rw [List.take_of_length_le]; rw [List.length_drop]; omega
theorem seg_nil {l : List Pr} {a b : Nat} (h : l.length ≤ a) : seg l a b = [] := by
  unfold seg; rw [List.drop_eq_nil_of_le h, List.take_nil]
theorem seg_sort {l : List Pr} {a b : Nat} (h : a ≤ b) (hb : b ≤ l.length) : seg (sortSeg l a b) a b = srt (seg l a b) :=
  (seg_of (A := l.take a) (S := srt (seg l a b)) (B := l.drop b) rfl (by simp; omega) (by rw [srt_len, seg_len l h hb]; simp; omega)).1
theorem seg_below {l : List Pr} {a b c d : Nat} (h : a ≤ b) (hb : b ≤ l.length) (hc : c ≤ d) (hd : d ≤ a) : seg (sortSeg l a b) c d = seg l c d := by
  have e : sortSeg l a b = l.take c ++ seg l c d ++ (seg l d a ++ srt (seg l a b) ++ l.drop b) := by
    unfold sortSeg
    have h1 : l.take a = l.take c ++ seg l c d ++ seg l d a := by
      have := parts (l := l.take a) (a := c) (m := d) (b := a) hc hd (by simp; omega)
      rw [List.drop_eq_nil_of_le (by simp; omega), List.append_nil, List.take_take, Nat.min_eq_left (by omega)] at this
      have e1 : seg (l.take a) c d = seg l c d := by unfold seg; rw [List.drop_take, List.take_take, Nat.min_eq_left (by omega)]
      have e2 : seg (l.take a) d a = seg l d a := by unfold seg; rw [List.drop_take, List.take_take, Nat.min_eq_left (by omega)]
      rw [e1, e2] at this; exact this
    rw [h1]; simp
  exact (seg_of e (by simp; omega) (by rw [seg_len l hc (by omega)]; simp; omega)).1
theorem seg_above {l : List Pr} {a b c d : Nat} (h : a ≤ b) (hb : b ≤ l.length) (hc : b ≤ c) : seg (sortSeg l a b) c d = seg l c d := by
  unfold seg
  have : (sortSeg l a b).drop c = l.drop c := by
    have hl : (l.take a ++ srt (seg l a b)).length = b := by rw [List.length_append, srt_len, seg_len l h hb]; simp; omega
    unfold sortSeg
    rw [List.drop_append, List.drop_eq_nil_of_le (by omega), List.nil_append, List.drop_drop, hl]
    congr 1; omega
  rw [this]
/-- each block of bs rises -/
def Blk (bs : Nat) (l : List Pr) : Prop := ∀ t, Rise (seg l (bs * t) (bs * (t + 1)))
theorem Rise.nil : Rise [] := List.Pairwise.nil
theorem Blk.whole {bs : Nat} {l : List Pr} (h : Blk bs l) (hl : l.length ≤ bs) : Rise l := by
  have := h 0
  rw [Nat.mul_zero, Nat.zero_add, Nat.mul_one, seg_out hl] at this
  exact this
/-- the first phase: up to a blocks of bs rise -/
def Ph1 (bs : Nat) (cur : List Pr) (a : Nat) : Prop := (∃ t, a = bs * t) ∧ ∀ t, bs * (t + 1) ≤ a → Rise (seg cur (bs * t) (bs * (t + 1)))
theorem Ph1.start (bs : Nat) (cur : List Pr) : Ph1 bs cur 0 := ⟨⟨0, rfl⟩, fun t h => by
  rcases Nat.eq_zero_or_pos bs with e | e
  · subst e; rw [Nat.zero_mul, Nat.zero_mul]; unfold seg; exact Rise.nil
  · have : bs * 1 ≤ bs * (t + 1) := Nat.mul_le_mul_left _ (by omega)
    omega⟩
theorem mul_cases {bs t u : Nat} (h0 : 0 < bs) (h : bs * (t + 1) ≤ bs * u + bs) : bs * (t + 1) ≤ bs * u ∨ t = u := by
  have h1 : bs * (t + 1) ≤ bs * (u + 1) := by rw [Nat.mul_succ bs u]; exact h
  have h2 := Nat.le_of_mul_le_mul_left h1 h0
  rcases Nat.lt_or_ge t u with h3 | h3
  · left; exact Nat.mul_le_mul_left _ h3
  · right; omega
theorem Ph1.step {bs : Nat} {cur : List Pr} {a : Nat} (h : Ph1 bs cur a) (h0 : 0 < bs) (hb : a + bs ≤ cur.length) : Ph1 bs (sortSeg cur a (a + bs)) (a + bs) := by
  obtain ⟨⟨u, rfl⟩, h2⟩ := h
  refine ⟨⟨u + 1, rfl⟩, fun t ht => ?_⟩
  rcases mul_cases h0 ht with h3 | rfl
  · rw [seg_below (by omega) hb (Nat.mul_le_mul_left _ (by omega)) h3]; exact h2 t h3
  · rw [Nat.mul_succ bs t, seg_sort (by omega) hb]; exact srt_rise _
theorem Ph1.last {bs : Nat} {cur : List Pr} {a n : Nat} (h : Ph1 bs cur a) (h0 : 0 < bs) (hn : cur.length = n) (ha : a ≤ n) (hb : n < a + bs) : Blk bs (sortSeg cur a n) := by
  obtain ⟨⟨u, rfl⟩, h2⟩ := h
  have hl := sortSeg_len cur ha (Nat.le_of_eq hn.symm)
  intro t
  rcases Nat.lt_trichotomy t u with h3 | h3 | h3
  · have h4 : bs * (t + 1) ≤ bs * u := Nat.mul_le_mul_left _ h3
    rw [seg_below ha (Nat.le_of_eq hn.symm) (Nat.mul_le_mul_left _ (by omega)) h4]; exact h2 t h4
  · subst h3
    have : seg (sortSeg cur (bs * t) n) (bs * t) (bs * (t + 1)) = seg (sortSeg cur (bs * t) n) (bs * t) n := by
      rw [seg_out (by rw [hl, Nat.mul_succ]; omega), seg_out (by omega)]
    rw [this, seg_sort ha (Nat.le_of_eq hn.symm)]; exact srt_rise _
  · have h4 : bs * (u + 1) ≤ bs * t := Nat.mul_le_mul_left _ h3
    rw [Nat.mul_succ] at h4
    rw [seg_nil (by rw [hl]; omega)]; exact Rise.nil
/-- the second phase: up to a blocks of two bs rise, behind it those of bs -/
def Ph2 (bs : Nat) (cur : List Pr) (a : Nat) : Prop := (∃ u, a = bs * (2 * u)) ∧ (∀ t, 2 * bs * (t + 1) ≤ a → Rise (seg cur (2 * bs * t) (2 * bs * (t + 1)))) ∧ ∀ t, a ≤ bs * t → Rise (seg cur (bs * t) (bs * (t + 1)))
theorem Ph2.start {bs : Nat} {cur : List Pr} (h : Blk bs cur) : Ph2 bs cur 0 := ⟨⟨0, by simp⟩, (Ph1.start (2 * bs) cur).2, fun t _ => h t⟩
theorem Ph2.two {bs : Nat} {cur : List Pr} {a : Nat} (h : Ph2 bs cur a) : Rise (seg cur a (a + bs)) ∧ Rise (seg cur (a + bs) (a + 2 * bs)) := by
  obtain ⟨⟨u, rfl⟩, h2, h3⟩ := h
  have e1 : bs * (2 * u + 1) = bs * (2 * u) + bs := Nat.mul_succ _ _
  have e2 : bs * (2 * u + 1 + 1) = bs * (2 * u) + 2 * bs := by rw [Nat.mul_succ, e1]; omega
  refine ⟨?_, ?_⟩
  · have := h3 (2 * u) (Nat.le_refl _); rw [e1] at this; exact this
  · have := h3 (2 * u + 1) (by rw [e1]; omega); rw [e1, e2] at this; exact this
theorem Ph2.step {bs : Nat} {cur : List Pr} {a : Nat} (h : Ph2 bs cur a) (h0 : 0 < bs) (hb : a + 2 * bs ≤ cur.length) : Ph2 bs (sortSeg cur a (a + 2 * bs)) (a + 2 * bs) := by
  obtain ⟨⟨u, rfl⟩, h2, h3⟩ := h
  have e1 : bs * (2 * u) = 2 * bs * u := by rw [Nat.mul_comm 2 bs, Nat.mul_assoc]
  refine ⟨⟨u + 1, by rw [Nat.mul_add 2 u 1, Nat.mul_add]; omega⟩, fun t ht => ?_, fun t ht => ?_⟩
  · rw [e1] at ht hb h2 ⊢
    rcases mul_cases (by omega) ht with h4 | rfl
    · rw [seg_below (by omega) hb (Nat.mul_le_mul_left _ (by omega)) h4]; exact h2 t h4
    · rw [Nat.mul_succ (2 * bs) t, seg_sort (by omega) hb]; exact srt_rise _
  · rw [seg_above (by omega) hb ht]; exact h3 t (by omega)
theorem Ph2.last1 {bs : Nat} {cur : List Pr} {a n : Nat} (h : Ph2 bs cur a) (h0 : 0 < bs) (hn : cur.length = n) (ha : a ≤ n) (hb : n < a + 2 * bs) : Blk (2 * bs) (sortSeg cur a n) := by
  obtain ⟨⟨u, rfl⟩, h2, h3⟩ := h
  have e1 : bs * (2 * u) = 2 * bs * u := by rw [Nat.mul_comm 2 bs, Nat.mul_assoc]
  have h2' : ∀ t, 2 * bs * (t + 1) ≤ 2 * bs * u → Rise (seg cur (2 * bs * t) (2 * bs * (t + 1))) := fun t ht => h2 t (by omega)
  rw [e1] at ha hb ⊢
  exact Ph1.last ⟨⟨u, rfl⟩, h2'⟩ (by omega) hn ha hb
theorem Ph2.last2 {bs : Nat} {cur : List Pr} {a n : Nat} (h : Ph2 bs cur a) (h0 : 0 < bs) (hn : cur.length = n) (ha : a ≤ n) (hb : n ≤ a + bs) : Blk (2 * bs) cur := by
  have h1 := h.two.1
  have hid : sortSeg cur a n = cur := by
    have e : seg cur a n = seg cur a (a + bs) := by rw [seg_out (by omega), seg_out (by omega)]
    unfold sortSeg
    rw [e, srt_id h1, ← e]
    exact (seg_split cur ha (by omega)).symm
  rw [← hid]
  exact Ph2.last1 h h0 hn ha (by omega)
theorem Ph2.run {bs : Nat} {cur : List Pr} {a n : Nat} (h : Ph2 bs cur a) (hn : cur.length = n) (hb : n ≤ a + 2 * bs) : Rise (seg cur (a + bs) n) := by
  have := h.two.2
  rw [seg_out (by omega)] at this
  rw [seg_out (by omega)]
  exact this
end Go.Proofs.YtgeedjlbajmdkaaGreatDoor
namespace Go.Proofs.YtgeedjlbajmdkaaGreatDoor
open Go.RowKit

set_option maxHeartbeats 1000000 in
theorem ClonePr_any (ao : Option Addr) (cap : Nat) (l : List Pr) (w : World) (hl : l.length ≤ 1000000000) (hs : Sl 2 encP w ao l) :
    Calls Tryz.prog 102 #[.slice ao l.length cap] w fun e w' => ∃ v, e = .returned v ∧ Own 2 encP 101 w' w.heap.size v l ∧ Below w.heap.size w w' := by
  obtain ⟨i0, hi, hz0, hz1, hz2⟩ := info_parts infoPr
  have hen : ∀ w : World, (binOp .eql 53 (.slice ao l.length cap) (.slice none 0 0)).run Tryz.prog w = .ok (.bool ao.isNone) w := fun w => Lib.run_eql_slice_nil w _ _ _ _ _ _ _ Tryz.underlying53
  cases ao with
  | none =>
    have h0 : l = [] := by
      rcases Nat.eq_zero_or_pos l.length with e | e
      · exact List.length_eq_zero_iff.1 e
      · obtain ⟨b, off, e', _⟩ := hs e; cases e'
    subst h0
    have hen' : ∀ w : World, (binOp .eql 53 (.slice none 0 cap) (.slice none 0 0)).run Tryz.prog w = .ok (.bool true) w := hen
    clear hen
    go_enter Tryz.func102, Tryz.ntmps102
    go_wp2
    go_ret
    exact ⟨_, rfl, Own.nil, Below.refl _ _⟩
  | some ad =>
    have hen' : ∀ w : World, (binOp .eql 53 (.slice (some ad) l.length cap) (.slice none 0 0)).run Tryz.prog w = .ok (.bool false) w := hen
    clear hen
    have hnews := Sl.cellsA encP_len (by decide) hs
    go_enter Tryz.func102, Tryz.ntmps102
    have ow0 : Own 2 encP 101 (w.alloc (.cells #[] 101)) w.heap.size (.slice (some ⟨w.heap.size, 0, none⟩) 0 0) ([] : List Pr) := Own.lit (l := []) encP_len (heap_new _ _) (Nat.le_refl _) rfl (by simp)
    have hnews2 : ∀ (j : Nat) (u : Value), (l.flatMap encP)[j]? = some u → (w.alloc (.cells #[] 101)).cell? (ad.add j) = some u := fun j u h => cell_later ((Below.refl _ _).alloc (Nat.le_refl _) _) (hnews j u h)
    have HN := hide hnews2
    clear hnews hnews2
    go_wp2_with (at_builtin; refine wpList_append_list encP_len _ _ 53 i0 _ rfl rfl Tryz.underlying53 hi hz0 hz1 hz2 rfl (by decide) (by decide) ow0 ((Below.refl w.heap.size w).alloc (Nat.le_refl _) _) ?c1 l ?c2 rfl ad cap l.length rfl rfl HN.out (one_flat one_pair) ?_)
    case c1 => simp
    case c2 => simp; omega
    intro v' w1 ho hb _ _
    go_wp2
    go_ret
    exact ⟨v', rfl, by simpa using ho, hb⟩

set_option maxHeartbeats 4000000 in
theorem RefSorted_any (ao : Option Addr) (cap : Nat) (l : List Pr) (w : World) (hl : l.length ≤ 1000000000) (hs : Sl 2 encP w ao l) :
    Calls Tryz.prog 70 #[.slice ao l.length cap] w fun e w' => ∃ v, e = .returned v ∧ Own 2 encP 101 w' w.heap.size v (srt l) ∧ Below w.heap.size w w' := by
  obtain ⟨i0, hi, hz0, hz1, hz2⟩ := info_parts infoPr
  rcases Nat.eq_zero_or_pos l.length with h0 | h0
  · obtain rfl := List.length_eq_zero_iff.1 h0
    cases ao with
    | none =>
      go_enter Tryz.func70, Tryz.ntmps70
      go_wp2
      go_loopw [4] (fun p wr => p = .int .i64 1 ∧ w = wr) (fun _ _ => 0)
      case atStart => exact ⟨rfl, rfl⟩
      case round =>
        obtain ⟨rfl, rfl⟩ := hrel
        go_wp2
        go_ret
        exact ⟨_, rfl, Own.nil, Below.refl _ _⟩
    | some ad =>
      have HN := hide (Sl.cellsA encP_len (by decide) hs)
      go_enter Tryz.func70, Tryz.ntmps70
      go_wp2_with (at_builtin; refine wpList_append_list encP_len _ _ 53 i0 _ rfl rfl Tryz.underlying53 hi hz0 hz1 hz2 rfl (by decide) (by decide) (Own.nil (base := w.heap.size)) (Below.refl w.heap.size w) (Nat.le_refl _) ([] : List Pr) ?c2 rfl ad cap 0 rfl rfl HN.out (one_flat one_pair) ?_)
      case c2 => simp
      intro v' w1 ho hb1 _ _
      have ho' : Own 2 encP 101 w1 w.heap.size v' ([] : List Pr) := ho
      obtain ⟨ao', cap', rfl⟩ := ho'.1
      have HO := hide ho'
      clear ho ho' hi hz0 hz1 hz2
      go_wp2
      go_loopw [4] (fun p wr => p = .int .i64 1 ∧ w1 = wr) (fun _ _ => 0)
      case atStart => exact ⟨rfl, rfl⟩
      case round =>
        obtain ⟨rfl, rfl⟩ := hrel
        go_wp2
        go_ret
        exact ⟨_, rfl, HO.out, hb1⟩
  · obtain ⟨b, off, rfl, hbw, _⟩ := hs h0
    have hnews := Sl.cells encP_len (by decide) hs
    have HN := hide hnews
    clear hnews
    go_enter Tryz.func70, Tryz.ntmps70
    go_wp2_with (at_builtin; refine wpList_append_list encP_len _ _ 53 i0 _ rfl rfl Tryz.underlying53 hi hz0 hz1 hz2 rfl (by decide) (by decide) (Own.nil (base := w.heap.size)) (Below.refl w.heap.size w) (Nat.le_refl _) l ?c2 rfl ⟨b, off, none⟩ cap l.length rfl rfl HN.out (one_flat one_pair) ?_)
    case c2 => simp; omega
    intro v' w1 ho hb1 _ _
    have ho : Own 2 encP 101 w1 w.heap.size v' l := ho
    obtain ⟨g, cp, rfl, hg, _, _, _⟩ := ho.addr h0
    have HO := hide ho
    have HB := hide hb1
    clear ho hb1 hi hz0 hz1 hz2
    go_wp2
    go_loopw [4] (fun p wr => ∃ k : Nat, k < l.length ∧ p = .int .i64 ((k : Int) + 1) ∧ Below w.heap.size w wr ∧ OwnP wr w.heap.size g l.length cp (insTo l 0 k)) (fun p _ => l.length + 1 - (intOf p).toNat)
    case atStart => exact ⟨0, by omega, by go_num, HB.out, HO.out⟩
    case round =>
      obtain ⟨k, hk, rfl, hbl, hown⟩ := hrel
      by_cases hlt : k + 1 < l.length
      · have hll := insTo_len l 0 k
        have hR : Hid (sink (insTo l 0 k) 0 (0 + 1 + k) = insTo l 0 (k + 1)) := rfl
        rw [show 0 + 1 + k = k + 1 by omega] at hR
        have HL := hide hll
        generalize insTo l 0 k = cur0 at *
        generalize hRe : insTo l 0 (k + 1) = R at *
        have HRe := hide hRe
        have HBL := hide hbl
        have HOWN := hide hown
        clear hRe hll hbl hown
        obtain ⟨wo, hwo⟩ : ∃ wo : World, wo = wr := ⟨wr, rfl⟩
        subst hwo
        have f0 : decide ((k : Int) + 1 < (l.length : Int)) = true := by simp; omega
        go_wp2
        clear f0
        go_loopw [5] (fun i wr => ∃ j : Nat, ∃ cur, j < l.length ∧ i = .int .i64 j ∧ Hid (sink cur 0 j = R) ∧ Hid (cur.length = l.length) ∧ Below w.heap.size w wr ∧ OwnP wr w.heap.size g l.length cp cur) (fun i _ => (intOf i).toNat)
        case atStart => exact ⟨k + 1, cur0, by omega, by go_num, hR, HL, HBL.out, HOWN.out⟩
        case round =>
          obtain ⟨j, cur, hj, rfl, hS, hC, hbl, hown⟩ := hrel
          by_cases hja : 0 < j
          · obtain ⟨j', rfl⟩ : ∃ j', j = j' + 1 := ⟨j - 1, by omega⟩
            obtain ⟨x, hx⟩ := get_some (l := cur) (i := j' + 1) (by rw [hC.out]; omega)
            obtain ⟨y, hy⟩ := get_some (l := cur) (i := j') (by rw [hC.out]; omega)
            obtain ⟨x0, x1, xz, xz', _⟩ := OwnP.at hown hx
            obtain ⟨y0, y1, yz, yz', _⟩ := OwnP.at hown hy
            have HX := hide hx
            have HY := hide hy
            have HOW := hide hown
            have HB2 := hide hbl
            have hgs := (hown.lt g rfl).2
            clear hx hy hown hbl
            have f1 : (0 : Int) ≤ (j' : Int) + 1 ∧ (j' : Int) + 1 < (l.length : Int) ∧ (0 : Int) ≤ (j' : Int) ∧ (j' : Int) < (l.length : Int) := by omega
            obtain ⟨f1, f2, f3, f4⟩ := f1
            have f5 : decide ((0 : Int) < (j' : Int) + 1) = true := by (simp; try omega)
            have f6 : IntKind.i64.wrap (j' : Int) = (j' : Int) := IntWalk.i64_in _ (by omega)
            have f7 : ((j' : Int) + 1).toNat = j' + 1 := by omega
            have hsk : Hid (klt x y = true → sink (swapAt cur (j' + 1) j') 0 j' = R) := fun hk => by rw [← sink_go HX.out HY.out hja hk]; exact hS.out
            have hss : Hid (klt x y = false → cur = R) := fun hk => by rw [← hS.out, sink_stop HX.out HY.out hk]
            cases hk2 : klt x y
            · have HE := hide (hss.out hk2)
              have hk3 : Op.bytesLess x.1.toList y.1.toList = false := hk2
              clear hk2 hsk hss
              go_wp2
              go_quiet (fail)
              have HE1 := HE.out
              subst HE1
              clear f5 f6 f7 hS
              go_wp2
              go_roundw
              case rel => exact ⟨k + 1, by omega, by go_num, below_drewN HB2.out _, by rw [HRe.out]; exact HOW.out.drewN _⟩
              case measure => (simp [intOf]; try omega)
            · have HE := hide (hsk.out hk2)
              have hk3 : Op.bytesLess x.1.toList y.1.toList = true := hk2
              have HCL := hide (show (swapAt cur (j' + 1) j').length = l.length by rw [swapAt_len]; exact hC.out)
              clear hk2 hsk hss
              go_wp2
              go_quiet (fail)
              have ho1 := HOW.out.drewN nq
              have hb1 := below_drewN HB2.out nq
              clear x0 x1 y0 y1 xz xz' yz yz' HB HO f5 f6 f7
              revert ho1 hb1
              generalize wr.drewN nq = wq
              intro ho1 hb1
              obtain ⟨x0, x1, xz, xz', _⟩ := OwnP.at ho1 HX.out
              obtain ⟨y0, y1, yz, yz', _⟩ := OwnP.at ho1 HY.out
              have hgq := (Own.lt ho1 g rfl).2
              have hk0 := swap_kept wq g (j' + 1) j' x y
              have hb2 := hb1.trans (hk0.below (B := w.heap.size) (fun q e => by omega) hb1.size)
              have HS := hide (Own.alloc (OwnP.swap ho1 HX.out HY.out) (.cells #[.string x.1, .int .i64 x.2] 101))
              have HK := hide (hb2.alloc hb2.size (.cells #[.string x.1, .int .i64 x.2] 101))
              clear hk0 hb2 ho1 hb1
              go_wp2
              go_roundw
              case rel => exact ⟨j', _, by omega, by go_num, HE, HCL, HK.out, HS.out⟩
              case measure => (simp [intOf]; try omega)
          · have f5 : decide ((0 : Int) < (j : Int)) = false := by simp; omega
            have f5' : decide (0 < j) = false := by simp; omega
            have HE : Hid (cur = R) := by show cur = R; rw [← hS.out, sink_lo (by omega)]
            go_wp2
            go_quiet (fail)
            have HE1 := HE.out
            subst HE1
            clear hS
            go_wp2
            go_roundw
            case rel => exact ⟨k + 1, by omega, by go_num, below_drewN hbl _, by rw [HRe.out]; exact hown.drewN _⟩
            case measure => (simp [intOf]; try omega)
      · have HE : Hid (insTo l 0 k = srt l) := by
          show _ = _
          rw [insTo_at l 0 k (by omega)]
          unfold sortSeg
          rw [show 0 + 1 + k = l.length by omega, seg_out (Nat.le_refl _)]
          simp
        go_wp2
        go_ret
        exact ⟨_, rfl, by rw [← HE.out]; exact hown, hbl⟩
end Go.Proofs.YtgeedjlbajmdkaaGreatDoor
