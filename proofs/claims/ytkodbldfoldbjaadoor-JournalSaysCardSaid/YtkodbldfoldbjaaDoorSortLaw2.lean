/- Pairs sorted in place: blocks that are merged two by two: the plain law. -/
import Derived.Test.YtkodbldfoldbjaaDoorSort3
set_option linter.unusedSimpArgs false
set_option linter.unusedVariables false
namespace Go.Proofs.YtkodbldfoldbjaaDoor
open Go.RowKit

theorem seg_out {l : List Pr} {a b : Nat} (h : l.length ≤ b) : seg l a b = l.drop a := by
  unfold seg; rw [List.take_of_length_le]; rw [List.length_drop]; omega
theorem seg_nil {l : List Pr} {a b : Nat} (h : l.length ≤ a) : seg l a b = [] := by
  unfold seg; rw [List.drop_eq_nil_of_le h, List.take_nil]
theorem seg_sort {l : List Pr} {a b : Nat} (h : a ≤ b) (hb : b ≤ l.length) : seg (sortSeg l a b) a b = srt (seg l a b) :=
  (seg_of (A := l.take a) (S := srt (seg l a b)) (B := l.drop b) rfl (by simp; omega) (by rw [srt_len, seg_len l h hb]; simp; omega)).1
theorem seg_below {l : List Pr} {a b c d : Nat} (h : a ≤ b) (hb : b ≤ l.length) (hc : c ≤ d) (hd : d ≤ a) : seg (sortSeg l a b) c d = seg l c d := by
  have e : sortSeg l a b = l.take c ++ seg l c d ++ (seg l d a ++ srt (seg l a b) ++ l.drop b) := by
    unfold sortSeg
    have h1 : l.take a = l.take c ++ seg l c d ++ seg l d a := by
      have := parts (l := l.take a) (a := c) (m := d) (b := a) hc hd (by simp; omega)
      rw [List.drop_eq_nil_of_le (by simp; omega), List.append_nil, List.take_take, Nat.min_eq_left (by omega)] at this
      have e1 : seg (l.take a) c d = seg l c d := by unfold seg; rw [List.drop_take, List.take_take, Nat.min_eq_left (by omega)]
      have e2 : seg (l.take a) d a = seg l d a := by unfold seg; rw [List.drop_take, List.take_take, Nat.min_eq_left (by omega)]
      rw [e1, e2] at this; exact this
    rw [h1]; simp
  exact (seg_of e (by simp; omega) (by rw [seg_len l hc (by omega)]; simp; omega)).1
theorem seg_above {l : List Pr} {a b c d : Nat} (h : a ≤ b) (hb : b ≤ l.length) (hc : b ≤ c) : seg (sortSeg l a b) c d = seg l c d := by
  unfold seg
  have : (sortSeg l a b).drop c = l.drop c := by
    have hl : (l.take a ++ srt (seg l a b)).length = b := by rw [List.length_append, srt_len, seg_len l h hb]; simp; omega
    unfold sortSeg
    rw [List.drop_append, List.drop_eq_nil_of_le (by omega), List.nil_append, List.drop_drop, hl]
    congr 1; omega
  rw [this]
/-- each block of bs rises -/
def Blk (bs : Nat) (l : List Pr) : Prop := ∀ t, Rise (seg l (bs * t) (bs * (t + 1)))
theorem Rise.nil : Rise [] := List.Pairwise.nil
theorem Blk.whole {bs : Nat} {l : List Pr} (h : Blk bs l) (hl : l.length ≤ bs) : Rise l := by
  have := h 0
  rw [Nat.mul_zero, Nat.zero_add, Nat.mul_one, seg_out hl] at this
  exact this
/-- the first phase: up to a blocks of bs rise -/
def Ph1 (bs : Nat) (cur : List Pr) (a : Nat) : Prop := (∃ t, a = bs * t) ∧ ∀ t, bs * (t + 1) ≤ a → Rise (seg cur (bs * t) (bs * (t + 1)))
theorem Ph1.start (bs : Nat) (cur : List Pr) : Ph1 bs cur 0 := ⟨⟨0, rfl⟩, fun t h => by
  rcases Nat.eq_zero_or_pos bs with e | e
  · subst e; rw [Nat.zero_mul, Nat.zero_mul]; unfold seg; exact Rise.nil
  · have : bs * 1 ≤ bs * (t + 1) := Nat.mul_le_mul_left _ (by omega)
    omega⟩
theorem mul_cases {bs t u : Nat} (h0 : 0 < bs) (h : bs * (t + 1) ≤ bs * u + bs) : bs * (t + 1) ≤ bs * u ∨ t = u := by
  have h1 : bs * (t + 1) ≤ bs * (u + 1) := by rw [Nat.mul_succ bs u]; exact h
  have h2 := Nat.le_of_mul_le_mul_left h1 h0
  rcases Nat.lt_or_ge t u with h3 | h3
  · left; exact Nat.mul_le_mul_left _ h3
  · right; omega
theorem Ph1.step {bs : Nat} {cur : List Pr} {a : Nat} (h : Ph1 bs cur a) (h0 : 0 < bs) (hb : a + bs ≤ cur.length) : Ph1 bs (sortSeg cur a (a + bs)) (a + bs) := by
  obtain ⟨⟨u, rfl⟩, h2⟩ := h
  refine ⟨⟨u + 1, rfl⟩, fun t ht => ?_⟩
  rcases mul_cases h0 ht with h3 | rfl
  · rw [seg_below (by omega) hb (Nat.mul_le_mul_left _ (by omega)) h3]; exact h2 t h3
  · rw [Nat.mul_succ bs t, seg_sort (by omega) hb]; exact srt_rise _
theorem Ph1.last {bs : Nat} {cur : List Pr} {a n : Nat} (h : Ph1 bs cur a) (h0 : 0 < bs) (hn : cur.length = n) (ha : a ≤ n) (hb : n < a + bs) : Blk bs (sortSeg cur a n) := by
  obtain ⟨⟨u, rfl⟩, h2⟩ := h
  have hl := sortSeg_len cur ha (Nat.le_of_eq hn.symm)
  intro t
  rcases Nat.lt_trichotomy t u with h3 | h3 | h3
  · have h4 : bs * (t + 1) ≤ bs * u := Nat.mul_le_mul_left _ h3
    rw [seg_below ha (Nat.le_of_eq hn.symm) (Nat.mul_le_mul_left _ (by omega)) h4]; exact h2 t h4
  · subst h3
    have : seg (sortSeg cur (bs * t) n) (bs * t) (bs * (t + 1)) = seg (sortSeg cur (bs * t) n) (bs * t) n := by
      rw [seg_out (by rw [hl, Nat.mul_succ]; omega), seg_out (by omega)]
    rw [this, seg_sort ha (Nat.le_of_eq hn.symm)]; exact srt_rise _
  · have h4 : bs * (u + 1) ≤ bs * t := Nat.mul_le_mul_left _ h3
    rw [Nat.mul_succ] at h4
    rw [seg_nil (by rw [hl]; omega)]; exact Rise.nil
/-- the second phase: up to a blocks of two bs rise, behind it those of bs -/
def Ph2 (bs : Nat) (cur : List Pr) (a : Nat) : Prop := (∃ u, a = bs * (2 * u)) ∧ (∀ t, 2 * bs * (t + 1) ≤ a → Rise (seg cur (2 * bs * t) (2 * bs * (t + 1)))) ∧ ∀ t, a ≤ bs * t → Rise (seg cur (bs * t) (bs * (t + 1)))
theorem Ph2.start {bs : Nat} {cur : List Pr} (h : Blk bs cur) : Ph2 bs cur 0 := ⟨⟨0, by simp⟩, (Ph1.start (2 * bs) cur).2, fun t _ => h t⟩
theorem Ph2.two {bs : Nat} {cur : List Pr} {a : Nat} (h : Ph2 bs cur a) : Rise (seg cur a (a + bs)) ∧ Rise (seg cur (a + bs) (a + 2 * bs)) := by
  obtain ⟨⟨u, rfl⟩, h2, h3⟩ := h
  have e1 : bs * (2 * u + 1) = bs * (2 * u) + bs := Nat.mul_succ _ _
  have e2 : bs * (2 * u + 1 + 1) = bs * (2 * u) + 2 * bs := by rw [Nat.mul_succ, e1]; omega
  refine ⟨?_, ?_⟩
  · have := h3 (2 * u) (Nat.le_refl _); rw [e1] at this; exact this
  · have := h3 (2 * u + 1) (by rw [e1]; omega); rw [e1, e2] at this; exact this
theorem Ph2.step {bs : Nat} {cur : List Pr} {a : Nat} (h : Ph2 bs cur a) (h0 : 0 < bs) (hb : a + 2 * bs ≤ cur.length) : Ph2 bs (sortSeg cur a (a + 2 * bs)) (a + 2 * bs) := by
  obtain ⟨⟨u, rfl⟩, h2, h3⟩ := h
  have e1 : bs * (2 * u) = 2 * bs * u := by rw [Nat.mul_comm 2 bs, Nat.mul_assoc]
  refine ⟨⟨u + 1, by rw [Nat.mul_add 2 u 1, Nat.mul_add]; omega⟩, fun t ht => ?_, fun t ht => ?_⟩
  · rw [e1] at ht hb h2 ⊢
    rcases mul_cases (by omega) ht with h4 | rfl
    · rw [seg_below (by omega) hb (Nat.mul_le_mul_left _ (by omega)) h4]; exact h2 t h4
    · rw [Nat.mul_succ (2 * bs) t, seg_sort (by omega) hb]; exact srt_rise _
  · rw [seg_above (by omega) hb ht]; exact h3 t (by omega)
theorem Ph2.last1 {bs : Nat} {cur : List Pr} {a n : Nat} (h : Ph2 bs cur a) (h0 : 0 < bs) (hn : cur.length = n) (ha : a ≤ n) (hb : n < a + 2 * bs) : Blk (2 * bs) (sortSeg cur a n) := by
  obtain ⟨⟨u, rfl⟩, h2, h3⟩ := h
  have e1 : bs * (2 * u) = 2 * bs * u := by rw [Nat.mul_comm 2 bs, Nat.mul_assoc]
  have h2' : ∀ t, 2 * bs * (t + 1) ≤ 2 * bs * u → Rise (seg cur (2 * bs * t) (2 * bs * (t + 1))) := fun t ht => h2 t (by omega)
  rw [e1] at ha hb ⊢
  exact Ph1.last ⟨⟨u, rfl⟩, h2'⟩ (by omega) hn ha hb
theorem Ph2.last2 {bs : Nat} {cur : List Pr} {a n : Nat} (h : Ph2 bs cur a) (h0 : 0 < bs) (hn : cur.length = n) (ha : a ≤ n) (hb : n ≤ a + bs) : Blk (2 * bs) cur := by
  have h1 := h.two.1
  have hid : sortSeg cur a n = cur := by
    have e : seg cur a n = seg cur a (a + bs) := by rw [seg_out (by omega), seg_out (by omega)]
    unfold sortSeg
    rw [e, srt_id h1, ← e]
    exact (seg_split cur ha (by omega)).symm
  rw [← hid]
  exact Ph2.last1 h h0 hn ha (by omega)
theorem Ph2.run {bs : Nat} {cur : List Pr} {a n : Nat} (h : Ph2 bs cur a) (hn : cur.length = n) (hb : n ≤ a + 2 * bs) : Rise (seg cur (a + bs) n) := by
  have := h.two.2
  rw [seg_out (by omega)] at this
  rw [seg_out (by omega)]
  exact this
end Go.Proofs.YtkodbldfoldbjaaDoor
