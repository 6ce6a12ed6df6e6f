/- Plain laws of a merge: the first list whose head is least. -/
import Derived.Test.YtafogaopccajaaaDoorSortLaw
set_option linter.unusedSimpArgs false
set_option linter.unusedVariables false
namespace Go.Proofs.YtafogaopccajaaaDoor
open Go.RowKit

theorem srt_min {A B : List Pr} {x : Pr} (ha : ∀ y ∈ A, klt x y = true) (hb : ∀ y ∈ B, klt y x = false) : srt (A ++ x :: B) = x :: srt (A ++ B) := by
  symm
  refine srt_of ?_ ?_
  · refine List.pairwise_cons.2 ⟨fun y hy => ?_, srt_rise _⟩
    rcases List.mem_append.1 (mem_srt.1 hy) with h | h
    · exact klt_asymm (ha y h)
    · exact hb y h
  · have h1 : SameK (x :: srt (A ++ B)) (x :: (A ++ B)) := SameK.append (a := [x]) (b := [x]) (SameK.refl _) (srt_same _)
    refine h1.trans fun k => ?_
    by_cases hk : isK k x = true
    · have hn : A.filter (isK k) = [] := by
        rw [List.filter_eq_nil_iff]
        intro y hy e
        have h2 := klt_ne (ha y hy)
        unfold isK at hk e
        rw [beq_iff_eq] at hk e
        exact h2 (hk.trans e.symm)
      rw [List.filter_cons_of_pos hk, List.filter_append, List.filter_append, List.filter_cons_of_pos hk, hn]; rfl
    · rw [List.filter_cons_of_neg hk, List.filter_append, List.filter_append, List.filter_cons_of_neg hk]

def Best (R : List (List Pr)) (k : Nat) (b : Int) : Prop :=
  (b = -1 ∧ ∀ j l, j < k → R[j]? = some l → l = []) ∨ ∃ m x t, b = ((m : Nat) : Int) ∧ m < k ∧ R[m]? = some (x :: t) ∧ (∀ j y t', j < m → R[j]? = some (y :: t') → klt x y = true) ∧ ∀ j y t', m < j → j < k → R[j]? = some (y :: t') → klt y x = false
theorem Best.zero (R : List (List Pr)) : Best R 0 (-1) := .inl ⟨rfl, fun j l h => by omega⟩
theorem Best.range {R : List (List Pr)} {k : Nat} {b : Int} (h : Best R k b) : -1 ≤ b ∧ b < (k : Int) := by
  rcases h with ⟨h, _⟩ | ⟨m, x, t, h, h2, _⟩ <;> omega
theorem Best.skip {R : List (List Pr)} {k : Nat} {b : Int} (h : Best R k b) (hk : R[k]? = some []) : Best R (k + 1) b := by
  rcases h with ⟨h, h1⟩ | ⟨m, x, t, h, h2, h3, h4, h5⟩
  · refine .inl ⟨h, fun j l hj hl => ?_⟩
    by_cases e : j = k
    · subst e; rw [hk] at hl; cases hl; rfl
    · exact h1 j l (by omega) hl
  · refine .inr ⟨m, x, t, h, by omega, h3, h4, fun j y t' hm hj hl => ?_⟩
    by_cases e : j = k
    · subst e; rw [hk] at hl; cases hl
    · exact h5 j y t' hm (by omega) hl
theorem Best.first {R : List (List Pr)} {k : Nat} {x : Pr} {t : List Pr} (h : Best R k (-1)) (hk : R[k]? = some (x :: t)) : Best R (k + 1) k := by
  rcases h with ⟨h, h1⟩ | ⟨m, x, t, h, h2, h3, h4, h5⟩
  · refine .inr ⟨k, x, t, rfl, by omega, hk, fun j y t' hj hl => ?_, fun j y t' hm hj hl => by omega⟩
    cases h1 j _ hj hl
  · omega
theorem Best.better {R : List (List Pr)} {k m : Nat} {x y : Pr} {t t' : List Pr} (h : Best R k m) (hm : R[m]? = some (x :: t)) (hk : R[k]? = some (y :: t')) (hy : klt y x = true) : Best R (k + 1) k := by
  rcases h with ⟨h, h1⟩ | ⟨m', x', t1, h, h2, h3, h4, h5⟩
  · omega
  · obtain rfl : m = m' := by omega
    rw [hm] at h3; cases h3
    refine .inr ⟨k, y, t', rfl, by omega, hk, fun j z t2 hj hl => ?_, fun j y t' hm hj hl => by omega⟩
    by_cases e : j = m
    · subst e; rw [hm] at hl; cases hl; exact hy
    · by_cases e2 : j < m
      · exact klt_trans hy (h4 j z t2 e2 hl)
      · exact klt_kle hy (h5 j z t2 (by omega) hj hl)
theorem Best.keep {R : List (List Pr)} {k m : Nat} {x y : Pr} {t t' : List Pr} (h : Best R k m) (hm : R[m]? = some (x :: t)) (hk : R[k]? = some (y :: t')) (hy : klt y x = false) : Best R (k + 1) m := by
  rcases h with ⟨h, h1⟩ | ⟨m', x', t1, h, h2, h3, h4, h5⟩
  · omega
  · obtain rfl : m = m' := by omega
    rw [hm] at h3; cases h3
    refine .inr ⟨m, x, t, rfl, by omega, hm, h4, fun j z t2 hj hl he => ?_⟩
    by_cases e : j = k
    · subst e; rw [hk] at he; cases he; exact hy
    · exact h5 j z t2 hj (by omega) he
theorem Best.no {R : List (List Pr)} (h : Best R R.length (-1)) : R.flatten = [] := by
  rcases h with ⟨h, h1⟩ | ⟨m, x, t, h, _⟩
  · rw [List.flatten_eq_nil_iff]
    intro l hl
    obtain ⟨j, hj⟩ := List.getElem?_of_mem hl
    exact h1 j l (List.getElem?_eq_some_iff.1 hj).1 hj
  · omega
theorem flatten_cut {R : List (List Pr)} {m : Nat} {l : List Pr} (h : R[m]? = some l) (l' : List Pr) : R.flatten = (R.take m).flatten ++ (l ++ (R.drop (m + 1)).flatten) ∧ (R.set m l').flatten = (R.take m).flatten ++ (l' ++ (R.drop (m + 1)).flatten) := by
  obtain ⟨hlt, hx⟩ := List.getElem?_eq_some_iff.1 h
  constructor
  · conv => lhs; rw [← List.take_append_drop m R, List.drop_eq_getElem_cons hlt, hx]
    rw [List.flatten_append, List.flatten_cons]
  · rw [List.set_eq_take_append_cons_drop, if_pos hlt, List.flatten_append, List.flatten_cons]
theorem Best.yes {R : List (List Pr)} {m : Nat} (h : Best R R.length m) (hr : ∀ l ∈ R, Rise l) : ∃ x t, R[m]? = some (x :: t) ∧ srt R.flatten = x :: srt (R.set m t).flatten := by
  rcases h with ⟨h, h1⟩ | ⟨m', x, t, h, h2, h3, h4, h5⟩
  · omega
  · obtain rfl : m = m' := by omega
    refine ⟨x, t, h3, ?_⟩
    obtain ⟨e1, e2⟩ := flatten_cut h3 t
    rw [e1, e2]
    have hx := hr _ (List.mem_of_getElem? h3)
    have hxt := (List.pairwise_cons.1 hx).1
    refine srt_min (fun y hy => ?_) (fun y hy => ?_)
    · obtain ⟨l, hl, hyl⟩ := List.mem_flatten.1 hy
      obtain ⟨j, hj⟩ := List.getElem?_of_mem hl
      have hjm : j < m := by have := (List.getElem?_eq_some_iff.1 hj).1; rw [List.length_take] at this; omega
      rw [List.getElem?_take_of_lt hjm] at hj
      match l, hj, hyl with
      | z :: t2, hj, hyl =>
        have hz := h4 j z t2 hjm hj
        rcases List.mem_cons.1 hyl with e | e
        · rw [e]; exact hz
        · exact klt_kle hz ((List.pairwise_cons.1 (hr _ (List.mem_of_getElem? hj))).1 y e)
    · rcases List.mem_append.1 hy with h | hy
      · exact hxt y h
      · obtain ⟨l, hl, hyl⟩ := List.mem_flatten.1 hy
        obtain ⟨j, hj⟩ := List.getElem?_of_mem hl
        rw [List.getElem?_drop] at hj
        have hlt := (List.getElem?_eq_some_iff.1 hj).1
        match l, hj, hyl with
        | z :: t2, hj, hyl =>
          have hz := h5 (m + 1 + j) z t2 (by omega) hlt hj
          rcases List.mem_cons.1 hyl with e | e
          · rw [e]; exact hz
          · exact kle_trans hz ((List.pairwise_cons.1 (hr _ (List.mem_of_getElem? hj))).1 y e)

theorem Best.head {R : List (List Pr)} {k m : Nat} (h : Best R k m) : ∃ x t, R[m]? = some (x :: t) := by
  rcases h with ⟨h, h1⟩ | ⟨m', x, t, h, h2, h3, h4, h5⟩
  · omega
  · obtain rfl : m = m' := by omega
    exact ⟨x, t, h3⟩
/-- what is left of the lists -/
def left (A : List Nat) (L : List (List Pr)) : List (List Pr) := List.zipWith (fun a l => l.drop a) A L
theorem left_len {A : List Nat} {L : List (List Pr)} (h : A.length = L.length) : (left A L).length = L.length := by unfold left; rw [List.length_zipWith]; omega
theorem left_get {A : List Nat} {L : List (List Pr)} {i a : Nat} {l : List Pr} (ha : A[i]? = some a) (hl : L[i]? = some l) : (left A L)[i]? = some (l.drop a) := by
  unfold left; rw [List.getElem?_zipWith, ha, hl]
theorem left_at {A : List Nat} {L : List (List Pr)} {i a : Nat} {l : List Pr} {p : Pr} (ha : A[i]? = some a) (hl : L[i]? = some l) (hp : l[a]? = some p) : (left A L)[i]? = some (p :: l.drop (a + 1)) := by
  rw [left_get ha hl]
  obtain ⟨hlt, hx⟩ := List.getElem?_eq_some_iff.1 hp
  rw [List.drop_eq_getElem_cons hlt, hx]
theorem left_end {A : List Nat} {L : List (List Pr)} {i a : Nat} {l : List Pr} (ha : A[i]? = some a) (hl : L[i]? = some l) (hp : l.length ≤ a) : (left A L)[i]? = some [] := by
  rw [left_get ha hl, List.drop_eq_nil_of_le hp]
theorem left_set {A : List Nat} {L : List (List Pr)} {i a : Nat} {l t : List Pr} {p : Pr} (ha : A[i]? = some a) (hl : L[i]? = some l) (hp : (left A L)[i]? = some (p :: t)) : left (A.set i (a + 1)) L = (left A L).set i t := by
  rw [left_get ha hl] at hp
  have hd : l.drop (a + 1) = t := by
    have := congrArg (List.drop 1) (Option.some.inj hp)
    rw [List.drop_drop] at this
    simpa using this
  apply List.ext_getElem?
  intro j
  by_cases e : i = j
  · subst e
    have hi := (List.getElem?_eq_some_iff.1 ha).1
    have hi2 := (List.getElem?_eq_some_iff.1 hl).1
    rw [left_get (List.getElem?_set_self hi) hl, List.getElem?_set_self (by unfold left; rw [List.length_zipWith]; omega), hd]
  · rw [List.getElem?_set_ne e]
    unfold left
    rw [List.getElem?_zipWith, List.getElem?_zipWith, List.getElem?_set_ne e]
theorem left_lt {A : List Nat} {L : List (List Pr)} {i a : Nat} {l t : List Pr} {p : Pr} (ha : A[i]? = some a) (hl : L[i]? = some l) (hp : (left A L)[i]? = some (p :: t)) : a < l.length := by
  rw [left_get ha hl] at hp
  have := congrArg List.length (Option.some.inj hp)
  rw [List.length_drop, List.length_cons] at this
  omega
theorem left_zero (L : List (List Pr)) : left (List.replicate L.length 0) L = L := by
  apply List.ext_getElem?
  intro j
  by_cases h : j < L.length
  · have h1 : L[j]? = some L[j] := List.getElem?_eq_getElem h
    rw [left_get (a := 0) (by simp [h]) h1, h1]; rfl
  · rw [List.getElem?_eq_none (by rw [left_len (by simp)]; omega), List.getElem?_eq_none (by omega)]
theorem left_rise {A : List Nat} {L : List (List Pr)} (h : ∀ l ∈ L, Rise l) : ∀ l ∈ left A L, Rise l := by
  intro l hl
  obtain ⟨j, hj⟩ := List.getElem?_of_mem hl
  unfold left at hj
  rw [List.getElem?_zipWith] at hj
  cases ha : A[j]? with
  | none => rw [ha] at hj; cases hj
  | some a =>
    cases hb : L[j]? with
    | none => rw [ha, hb] at hj; cases hj
    | some b =>
      rw [ha, hb] at hj
      cases hj
      exact (h b (List.mem_of_getElem? hb)).sub (List.drop_sublist _ _)
end Go.Proofs.YtafogaopccajaaaDoor
