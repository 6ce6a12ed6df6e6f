/- Plain laws of words: they have no blanks; with one blank between they are read again. -/
import Derived.Test.YtkodbldfoldbjaaDoorTextLaw
set_option linter.unusedSimpArgs false
set_option linter.unusedVariables false
namespace Go.Proofs.YtkodbldfoldbjaaDoor
open Go.RowKit

theorem splitAt_app (c : UInt8) : ∀ (A B : List UInt8), splitAt c (A ++ c :: B) = splitAt c A ++ splitAt c B
  | [], B => by simp [splitAt]
  | a :: A, B => by
    rw [List.cons_append]
    have ih := splitAt_app c A B
    by_cases e : a = c
    · subst e
      have h1 : splitAt a (a :: (A ++ a :: B)) = [] :: splitAt a (A ++ a :: B) := by conv => lhs; unfold splitAt; rw [if_pos rfl]
      have h2 : splitAt a (a :: A) = [] :: splitAt a A := by conv => lhs; unfold splitAt; rw [if_pos rfl]
      rw [h1, h2, ih]; rfl
    · cases hs : splitAt c A with
      | nil => exact absurd hs (splitAt_ne _ _)
      | cons h t =>
        have h2 : splitAt c (a :: A) = (a :: h) :: t := by unfold splitAt; rw [if_neg e, hs]
        have h1 : splitAt c (a :: (A ++ c :: B)) = (a :: h) :: (t ++ splitAt c B) := by
          conv => lhs; unfold splitAt
          rw [if_neg e, ih, hs]; rfl
        rw [h1, h2]; rfl
theorem words_app (A B : List UInt8) : wordsL (A ++ 32 :: B) = wordsL A ++ wordsL B := by
  unfold wordsL
  rw [splitAt_app, List.filter_append]
theorem splitAt_mem {c : UInt8} : ∀ {l w : List UInt8}, w ∈ splitAt c l → c ∉ w ∧ w.length ≤ l.length
  | [], w, h => by simp [splitAt] at h; subst h; simp
  | b :: l, w, h => by
    unfold splitAt at h
    by_cases e : b = c
    · rw [if_pos e] at h
      rcases List.mem_cons.1 h with h | h
      · subst h; simp
      · obtain ⟨h1, h2⟩ := splitAt_mem h
        exact ⟨h1, by simp; omega⟩
    · rw [if_neg e] at h
      cases hs : splitAt c l with
      | nil => exact absurd hs (splitAt_ne _ _)
      | cons x t =>
        rw [hs] at h
        rcases List.mem_cons.1 h with h | h
        · subst h
          obtain ⟨h1, h2⟩ := splitAt_mem (w := x) (by rw [hs]; exact List.mem_cons_self)
          exact ⟨fun h => by
            rcases List.mem_cons.1 h with h | h
            · exact e h.symm
            · exact h1 h, by simp; omega⟩
        · obtain ⟨h1, h2⟩ := splitAt_mem (w := w) (by rw [hs]; exact List.mem_cons_of_mem _ h)
          exact ⟨h1, by simp; omega⟩
theorem words_mem {l w : List UInt8} (h : w ∈ wordsL l) : 32 ∉ w ∧ w.length ≤ l.length ∧ w ≠ [] := by
  unfold wordsL at h
  rw [List.mem_filter] at h
  obtain ⟨h1, h2⟩ := splitAt_mem h.1
  exact ⟨h1, h2, by rintro rfl; simp at h⟩
theorem words_len (l : List UInt8) : (wordsL l).length ≤ l.length + 1 := by
  unfold wordsL
  refine Nat.le_trans (List.length_filter_le _ _) ?_
  induction l with
  | nil => simp [splitAt]
  | cons b l ih =>
    unfold splitAt
    split
    · simp; omega
    · split
      · rename_i h t e
        rw [e] at ih
        simp at ih ⊢; omega
      · simp
/-- words with a blank behind each -/
def blanked (ws : List (List UInt8)) : List UInt8 := ws.flatMap fun w => w ++ [32]
theorem words_one {w r : List UInt8} (h : 32 ∉ w) (h0 : w ≠ []) : wordsL (w ++ 32 :: r) = w :: wordsL r := by
  unfold wordsL
  rw [splitAt_yes h, List.filter_cons_of_pos]
  cases w with
  | nil => exact absurd rfl h0
  | cons a t => rfl
theorem words_blanked : ∀ (ws : List (List UInt8)), (∀ w ∈ ws, 32 ∉ w ∧ w ≠ []) → wordsL (blanked ws) = ws
  | [], _ => rfl
  | w :: ws, h => by
    have h1 := h w List.mem_cons_self
    have e : blanked (w :: ws) = w ++ 32 :: blanked ws := by simp [blanked]
    rw [e, words_one h1.1 h1.2, words_blanked ws fun x hx => h x (List.mem_cons_of_mem _ hx)]
theorem blanked_take_succ {ws : List (List UInt8)} {k : Nat} {w : List UInt8} (h : ws[k]? = some w) : blanked (ws.take (k + 1)) = blanked (ws.take k) ++ w ++ [32] := by
  obtain ⟨hlt, hx⟩ := List.getElem?_eq_some_iff.1 h
  unfold blanked
  rw [List.take_succ_eq_append_getElem hlt, hx, List.flatMap_append]
  simp
theorem blanked_len {ws : List (List UInt8)} {n : Nat} (h : ∀ w ∈ ws, w.length ≤ n) (k : Nat) : (blanked (ws.take k)).length ≤ k * (n + 1) := by
  induction k with
  | zero => simp [blanked]
  | succ k ih =>
    by_cases hk : k < ws.length
    · have hw : ws[k]? = some ws[k] := List.getElem?_eq_getElem hk
      rw [blanked_take_succ hw, Nat.succ_mul]
      have := h _ (List.mem_of_getElem? hw)
      simp; omega
    · rw [List.take_of_length_le (by omega)]
      rw [List.take_of_length_le (by omega)] at ih
      rw [Nat.succ_mul]; omega
end Go.Proofs.YtkodbldfoldbjaaDoor
