/- Small laws of pairs that several walks use. -/
import Derived.Test.YtkodbldfoldbjaaDoorPair7
import Derived.Test.YtkodbldfoldbjaaDoorRows2
set_option linter.unusedSimpArgs false
set_option linter.unusedVariables false
namespace Go.Proofs.YtkodbldfoldbjaaDoor
open Go.RowKit

theorem textP_small : ∀ (l : List Pr), (∀ p ∈ l, p.1.size ≤ 60 ∧ -9223372036854775808 ≤ p.2 ∧ p.2 ≤ 9223372036854775807) → (textP l).length ≤ 103 * l.length
  | [], _ => Nat.le_refl _
  | p :: l, h => by
    have h1 := h p List.mem_cons_self
    have h3 := textP_small l fun x hx => h x (List.mem_cons_of_mem _ hx)
    have h4 : (Lib.itoa (p.1.size : Int)).length ≤ 20 := itoa_len (by omega) (by omega)
    have h5 : (Lib.itoa p.2).length ≤ 20 := itoa_len h1.2.1 h1.2.2
    rw [show textP (p :: l) = lineP p ++ textP l from rfl, List.length_append, List.length_cons]
    unfold lineP
    simp only [List.length_append, List.length_cons, List.length_nil, tl_len]
    omega
theorem light_of {l : List Pr} {m : Int} (h : lightPairs l m = true) : (l.length : Int) ≤ m ∧ ∀ p ∈ l, p.1.size ≤ 60 := by
  simp only [lightPairs, Bool.and_eq_true, decide_eq_true_eq, List.all_eq_true, shortKey] at h
  exact h
theorem rise_at {l : List Pr} (h : Rise l) {k : Nat} {a b : Pr} (ha : l[k]? = some a) (hb : l[k + 1]? = some b) : Op.bytesLess b.1.toList a.1.toList = false := by
  obtain ⟨h1, e1⟩ := List.getElem?_eq_some_iff.1 ha
  obtain ⟨h2, e2⟩ := List.getElem?_eq_some_iff.1 hb
  have := (List.pairwise_iff_getElem.1 h) k (k + 1) h1 h2 (by omega)
  rw [e1, e2] at this
  exact this
theorem rises_rise {l : List Pr} (h : rises l = true) : Rise l := by
  have hadj : ∀ (i : Nat) x y, l[i]? = some x → l[i + 1]? = some y → klt y x = false := by
    intro i x y hx hy
    unfold rises upTo at h
    have h2 := List.all_eq_true.1 h i (List.mem_range.2 (List.getElem?_eq_some_iff.1 hx).1)
    rw [hx, hy] at h2
    simpa [klt] using h2
  refine List.pairwise_iff_getElem.2 fun i j hi hj hij => ?_
  have key : ∀ d, ∀ (hj : i + 1 + d < l.length), klt l[i + 1 + d] l[i] = false := by
    intro d
    induction d with
    | zero => intro hj; exact hadj i _ _ (List.getElem?_eq_getElem hi) (List.getElem?_eq_getElem hj)
    | succ d ih =>
      intro hj
      exact kle_trans (ih (by omega)) (hadj (i + 1 + d) _ _ (List.getElem?_eq_getElem (by omega)) (List.getElem?_eq_getElem hj))
  have := key (j - (i + 1)) (by omega)
  simpa [show i + 1 + (j - (i + 1)) = j by omega] using this
theorem flat_len_le {ls : List (List Pr)} {n k : Nat} (h : ∀ l ∈ ls, l.length ≤ n) (hk : ls.length ≤ k) : ls.flatten.length ≤ k * n := by
  induction ls generalizing k with
  | nil => simp
  | cons a ls ih =>
    obtain ⟨k, rfl⟩ : ∃ m, k = m + 1 := ⟨k - 1, by simp at hk; omega⟩
    have h1 := ih (fun l hl => h l (List.mem_cons_of_mem _ hl)) (k := k) (by simpa using hk)
    have h2 := h a List.mem_cons_self
    rw [List.flatten_cons, List.length_append, Nat.succ_mul]
    omega
end Go.Proofs.YtkodbldfoldbjaaDoor
