/- Numbers and texts: what upTo, Number and Decimal of the document return. -/
import Derived.Lib.ItoaMem
import Derived.Lib.AtoiAllCases
import GoSem.Op.String
import Derived.Test.YtgeedjlbajmdkaaGreatDoorSort
import Derived.Test.YtgeedjlbajmdkaaGreatDoorWords2
import Derived.OwnWalk
set_option linter.unusedSimpArgs false
set_option linter.unusedVariables false
/- Numbers and their decimal numerals: what strconv's two functions say together, and the document's reading (no program). -/
namespace Go.Proofs.YtgeedjlbajmdkaaGreatDoor
open Go.Lib

def isDig (c : UInt8) : Bool := decide (48 ≤ c.toNat) && decide (c.toNat ≤ 57)
theorem isDig_iff {c : UInt8} : isDig c = true ↔ 48 ≤ c.toNat ∧ c.toNat ≤ 57 := by unfold isDig; simp
/-- what digits spell -/
def digV : Nat → List UInt8 → Nat
  | acc, [] => acc
  | acc, c :: r => digV (10 * acc + (c.toNat - 48)) r
theorem digV_nil (acc : Nat) : digV acc [] = acc := by unfold digV; rfl
theorem digV_cons (acc : Nat) (c : UInt8) (r : List UInt8) : digV acc (c :: r) = digV (10 * acc + (c.toNat - 48)) r := by conv => lhs; unfold digV
theorem digV_snoc (l : List UInt8) : ∀ (acc : Nat) (c : UInt8), digV acc (l ++ [c]) = 10 * digV acc l + (c.toNat - 48) := by
  induction l with
  | nil => intro acc c; rw [List.nil_append, digV_cons, digV_nil, digV_nil]
  | cons d l ih => intro acc c; rw [List.cons_append, digV_cons, digV_cons]; exact ih _ c
theorem digV_mono (l : List UInt8) : ∀ (acc : Nat), acc ≤ digV acc l := by
  induction l with
  | nil => intro acc; rw [digV_nil]; exact Nat.le_refl _
  | cons c l ih => intro acc; rw [digV_cons]; have := ih (10 * acc + (c.toNat - 48)); omega
theorem digV_lt (l : List UInt8) : ∀ (acc : Nat), (∀ c ∈ l, isDig c = true) → digV acc l < (acc + 1) * 10 ^ l.length := by
  induction l with
  | nil => intro acc _; rw [digV_nil]; simp
  | cons c l ih =>
    intro acc h
    have h1 := isDig_iff.1 (h c (List.mem_cons_self ..))
    have h2 := ih (10 * acc + (c.toNat - 48)) fun x hx => h x (List.mem_cons_of_mem _ hx)
    rw [digV_cons, List.length_cons]
    have h3 : (10 * acc + (c.toNat - 48) + 1) * 10 ^ l.length ≤ (10 * (acc + 1)) * 10 ^ l.length := Nat.mul_le_mul_right _ (by omega)
    have h4 : (10 * (acc + 1)) * 10 ^ l.length = (acc + 1) * 10 ^ (l.length + 1) := by rw [Nat.pow_succ, Nat.mul_comm 10 (acc + 1), Nat.mul_assoc, Nat.mul_comm 10 (10 ^ _)]
    omega
theorem digV_ge (l : List UInt8) : ∀ (acc : Nat), acc * 10 ^ l.length ≤ digV acc l := by
  induction l with
  | nil => intro acc; rw [digV_nil]; simp
  | cons y r ih =>
    intro acc
    rw [digV_cons, List.length_cons]
    refine Nat.le_trans ?_ (ih _)
    rw [Nat.pow_succ, Nat.mul_comm (10 ^ _) 10, ← Nat.mul_assoc]
    exact Nat.mul_le_mul_right _ (by omega)
theorem digV_step {l m : List UInt8} {a b : Nat} (hl : l.length = m.length) (hd : ∀ c ∈ l, isDig c = true) (h : a < b) : digV a l < digV b m := by
  have h1 := digV_lt l a hd
  have h2 := digV_ge m b
  have h3 : (a + 1) * 10 ^ l.length ≤ b * 10 ^ m.length := by rw [hl]; exact Nat.mul_le_mul_right _ h
  omega
/-- numerals of one length are in order as their numbers are -/
theorem less_dig (l : List UInt8) : ∀ (m : List UInt8) (acc : Nat), l.length = m.length → (∀ c ∈ l, isDig c = true) → (∀ c ∈ m, isDig c = true) → Op.bytesLess l m = decide (digV acc l < digV acc m) := by
  induction l with
  | nil =>
    intro m acc h _ _
    obtain rfl : m = [] := List.length_eq_zero_iff.1 h.symm
    simp [Op.bytesLess]
  | cons x l ih =>
    intro m acc h hx hy
    cases m with
    | nil => simp at h
    | cons y m =>
      have x1 := isDig_iff.1 (hx x (List.mem_cons_self ..))
      have y1 := isDig_iff.1 (hy y (List.mem_cons_self ..))
      have hlen : l.length = m.length := by simpa using h
      have hx' : ∀ c ∈ l, isDig c = true := fun c hc => hx c (List.mem_cons_of_mem _ hc)
      have hy' : ∀ c ∈ m, isDig c = true := fun c hc => hy c (List.mem_cons_of_mem _ hc)
      rw [digV_cons, digV_cons]
      simp only [Op.bytesLess]
      rcases Nat.lt_trichotomy x.toNat y.toNat with h1 | h1 | h1
      · have h2 : decide (x < y) = true := by simpa [UInt8.lt_iff_toNat_lt] using h1
        have h3 := digV_step (a := 10 * acc + (x.toNat - 48)) (b := 10 * acc + (y.toNat - 48)) hlen hx' (by omega)
        rw [h2, Bool.true_or]
        exact (decide_eq_true h3).symm
      · obtain rfl : x = y := UInt8.toNat_inj.1 h1
        rw [ih m (10 * acc + (x.toNat - 48)) hlen hx' hy']
        have h2 : decide (x < x) = false := by simp [UInt8.lt_iff_toNat_lt]
        rw [h2, Bool.false_or, beq_self_eq_true, Bool.true_and]
      · have h2 : decide (x < y) = false := by simp [UInt8.lt_iff_toNat_lt]; omega
        have h3 : (x == y) = false := by rw [beq_eq_false_iff_ne]; intro e; subst e; omega
        have h4 := digV_step (a := 10 * acc + (y.toNat - 48)) (b := 10 * acc + (x.toNat - 48)) hlen.symm hy' (by omega)
        have h5 : ¬ digV (10 * acc + (x.toNat - 48)) l < digV (10 * acc + (y.toNat - 48)) m := by omega
        rw [h2, h3, Bool.false_and, Bool.or_false]
        exact (decide_eq_false h5).symm
theorem parse_ok (l : List UInt8) : ∀ (acc : Nat), (∀ c ∈ l, isDig c = true) → digV acc l < 18446744073709551616 → parseUint10 acc l = .ok (digV acc l) := by
  induction l with
  | nil => intro acc _ _; rw [digV_nil]; simp only [parseUint10]
  | cons c l ih =>
    intro acc h hv
    have h1 := isDig_iff.1 (h c (List.mem_cons_self ..))
    have h2 := digV_mono l (10 * acc + (c.toNat - 48))
    rw [digV_cons] at hv ⊢
    simp only [parseUint10]
    rw [if_pos h1, if_neg (by omega), if_neg (by omega), Nat.mul_comm acc 10]
    exact ih _ (fun x hx => h x (List.mem_cons_of_mem _ hx)) hv
theorem parse_inv (l : List UInt8) : ∀ (acc u : Nat), parseUint10 acc l = .ok u → (∀ c ∈ l, isDig c = true) ∧ digV acc l = u := by
  induction l with
  | nil => intro acc u h; simp only [parseUint10] at h; injection h with h; rw [digV_nil]; exact ⟨fun c hc => (by cases hc), h⟩
  | cons c l ih =>
    intro acc u h
    simp only [parseUint10] at h
    split at h
    · next h1 =>
      split at h
      · cases h
      · split at h
        · cases h
        · obtain ⟨a, b⟩ := ih _ u h
          refine ⟨fun x hx => ?_, ?_⟩
          · rcases List.mem_cons.1 hx with rfl | hx
            · exact isDig_iff.2 h1
            · exact a x hx
          · rw [digV_cons, Nat.mul_comm 10 acc]; exact b
    · cases h
theorem u8_nat {n : Nat} (h : n < 256) : (UInt8.ofNat n).toNat = n := by simp [UInt8.toNat_ofNat']; omega
/-- a numeral: digits, of which none too many -/
structure Numeral (l : List UInt8) : Prop where
  ne : l ≠ []
  dig : ∀ c ∈ l, isDig c = true
  lead : l.head? = some 48 → l.length = 1
theorem dec_dig (u : Nat) : (∀ c ∈ decDigits u, isDig c = true) ∧ digV 0 (decDigits u) = u ∧ decDigits u ≠ [] ∧ ((decDigits u).head? = some 48 → u = 0) := by
  induction u using Nat.strongRecOn with
  | _ u ih =>
    by_cases h : u < 10
    · rw [decDigits, dif_pos h]
      have e : (UInt8.ofNat (48 + u)).toNat = 48 + u := u8_nat (by omega)
      refine ⟨fun c hc => ?_, ?_, by simp, fun h2 => ?_⟩
      · obtain rfl : c = UInt8.ofNat (48 + u) := by simpa using hc
        rw [isDig_iff, e]; omega
      · rw [digV_cons, digV_nil, e]; omega
      · have h3 : UInt8.ofNat (48 + u) = 48 := by simpa using h2
        rw [h3] at e
        have : (48 : UInt8).toNat = 48 := rfl
        omega
    · obtain ⟨a, b, c, d⟩ := ih (u / 10) (by omega)
      rw [decDigits, dif_neg h]
      have e : (UInt8.ofNat (48 + u % 10)).toNat = 48 + u % 10 := u8_nat (by omega)
      refine ⟨fun x hx => ?_, ?_, by simp, fun h2 => ?_⟩
      · rcases List.mem_append.1 hx with hx | hx
        · exact a x hx
        · obtain rfl : x = UInt8.ofNat (48 + u % 10) := by simpa using hx
          rw [isDig_iff, e]; omega
      · rw [digV_snoc, b, e]; omega
      · obtain ⟨y, q, hy⟩ : ∃ y q, decDigits (u / 10) = y :: q := List.exists_cons_of_ne_nil c
        rw [hy] at h2 d
        have := d (by simpa using h2)
        omega
theorem dec_numeral (u : Nat) : Numeral (decDigits u) := by
  obtain ⟨a, b, c, d⟩ := dec_dig u
  refine ⟨c, a, fun h => ?_⟩
  rw [d h, decDigits_one (by decide)]; rfl
theorem dec_of : ∀ (n : Nat) (l : List UInt8), l.length = n → Numeral l → decDigits (digV 0 l) = l := by
  intro n
  induction n with
  | zero => intro l hl h; exact (h.ne (List.length_eq_zero_iff.1 hl)).elim
  | succ n ih =>
    intro l hl h
    have hne : l ≠ [] := h.ne
    obtain ⟨p, c, rfl⟩ : ∃ p c, l = p ++ [c] := ⟨l.dropLast, l.getLast hne, (List.dropLast_concat_getLast hne).symm⟩
    have hc := isDig_iff.1 (h.dig c (by simp))
    rw [digV_snoc]
    cases p with
    | nil =>
      rw [digV_nil, List.nil_append, decDigits_one (by omega), show 48 + (10 * 0 + (c.toNat - 48)) = c.toNat by omega]
      simp
    | cons d q =>
      have hd := isDig_iff.1 (h.dig d (by simp))
      have h48 : d ≠ 48 := fun e => by
        have := h.lead (by simp [e])
        simp at this
      have hd2 : 49 ≤ d.toNat := by
        rcases Nat.lt_or_ge 48 d.toNat with h1 | h1
        · exact h1
        · exact (h48 (UInt8.toNat_inj.1 (show d.toNat = 48 by omega))).elim
      have hn : Numeral (d :: q) := ⟨by simp, fun x hx => h.dig x (by simp only [List.mem_append]; exact .inl hx), fun e => by simp at e; exact (h48 e).elim⟩
      have hih := ih (d :: q) (by simp at hl ⊢; omega) hn
      have hv : 1 ≤ digV 0 (d :: q) := by
        have := digV_mono q (10 * 0 + (d.toNat - 48))
        rw [digV_cons]; omega
      rw [decDigits, dif_neg (by omega), show (10 * digV 0 (d :: q) + (c.toNat - 48)) / 10 = digV 0 (d :: q) by omega, hih,
        show 48 + (10 * digV 0 (d :: q) + (c.toNat - 48)) % 10 = c.toNat by omega]
      simp
/-- a number's text, read: as strconv's two functions do it -/
def numS (s : List UInt8) : Option Int := match atoiAll s with | .ok v => if itoa v = s then some v else none | _ => none
theorem atoi_itoa {v : Int} (h0 : -9223372036854775808 ≤ v) (h1 : v ≤ 9223372036854775807) : atoiAll (itoa v) = .ok v := by
  by_cases hv : v < 0
  · obtain ⟨u, rfl⟩ : ∃ u : Nat, v = -(u : Int) := ⟨v.natAbs, by omega⟩
    rw [itoa_neg u (by omega), atoiAll_minus]
    obtain ⟨a, b, c, d⟩ := dec_dig u
    unfold parseMag
    rw [if_neg c, parse_ok _ _ a (by omega), b]
    unfold signed
    simp only
    rw [if_neg (by omega)]
  · obtain ⟨u, rfl⟩ : ∃ u : Nat, v = (u : Int) := ⟨v.toNat, by omega⟩
    rw [itoa_nonneg]
    obtain ⟨a, b, c, d⟩ := dec_dig u
    obtain ⟨x, r, hx⟩ : ∃ x r, decDigits u = x :: r := List.exists_cons_of_ne_nil c
    have h2 := isDig_iff.1 (a x (by rw [hx]; exact List.mem_cons_self ..))
    rw [hx, atoiAll_plain x r (by omega) (by omega), ← hx]
    unfold parseMag
    rw [if_neg c, parse_ok _ _ a (by omega), b]
    unfold signless
    simp only
    rw [if_neg (by omega)]
theorem num_iff {s : List UInt8} {v : Int} : numS s = some v ↔ (-9223372036854775808 ≤ v ∧ v ≤ 9223372036854775807) ∧ s = itoa v := by
  constructor
  · intro h
    unfold numS at h
    split at h
    · next u hu =>
      split at h
      · next e => injection h with h; subst h; exact ⟨atoiAll_bounds hu, e.symm⟩
      · cases h
    · cases h
  · rintro ⟨⟨h0, h1⟩, rfl⟩
    unfold numS
    rw [atoi_itoa h0 h1]
    simp
/-- behind the sign -/
def magS (s : List UInt8) : List UInt8 := if s.head? = some 45 then s.drop 1 else s
def max19 : List UInt8 := [57, 50, 50, 51, 51, 55, 50, 48, 51, 54, 56, 53, 52, 55, 55, 53, 56, 48, 55]
def min20 : List UInt8 := [45, 57, 50, 50, 51, 51, 55, 50, 48, 51, 54, 56, 53, 52, 55, 55, 53, 56, 48, 56]
/-- the document's reading -/
def refNum (s : List UInt8) : Int × Bool :=
  if (magS s).length < 1 ∨ 19 < (magS s).length ∨ ((magS s).head? = some 48 ∧ 1 < s.length) then (0, false)
  else if (magS s).all isDig then
    if (magS s).length = 19 ∧ 9223372036854775807 < digV 0 (magS s) then (-9223372036854775808, decide (s = min20))
    else (if (magS s).length < s.length then -(digV 0 (magS s) : Int) else digV 0 (magS s), true)
  else (0, false)
theorem itoa_min : itoa (-9223372036854775808) = min20 := by
  have h : min20 = 45 :: [57, 50, 50, 51, 51, 55, 50, 48, 51, 54, 56, 53, 52, 55, 55, 53, 56, 48, 56] := rfl
  have e := dec_of 19 [57, 50, 50, 51, 51, 55, 50, 48, 51, 54, 56, 53, 52, 55, 55, 53, 56, 48, 56] rfl ⟨by simp, by decide, by decide⟩
  rw [show digV 0 [57, 50, 50, 51, 51, 55, 50, 48, 51, 54, 56, 53, 52, 55, 55, 53, 56, 48, 56] = 9223372036854775808 by decide +kernel] at e
  rw [h, ← e]
  exact itoa_neg 9223372036854775808 (by decide)
theorem dec_len_le {u : Nat} (h : u ≤ 9223372036854775808) : (decDigits u).length ≤ 19 := by
  rw [decDigits_length]
  by_cases h1 : nDigits u ≤ 19
  · exact h1
  · exfalso
    obtain ⟨a, b, c, d⟩ := dec_dig u
    have hl := decDigits_length u
    have hlow : ∀ (l : List UInt8), Numeral l → 2 ≤ l.length → 10 ^ (l.length - 1) ≤ digV 0 l := by
      intro l hn h2
      obtain ⟨x, r, rfl⟩ : ∃ x r, l = x :: r := List.exists_cons_of_ne_nil hn.ne
      have hx := isDig_iff.1 (hn.dig x (List.mem_cons_self ..))
      have hx2 : x ≠ 48 := fun e => by have := hn.lead (by simp [e]); omega
      have hx3 : 49 ≤ x.toNat := by
        rcases Nat.lt_or_ge 48 x.toNat with h3 | h3
        · exact h3
        · exact (hx2 (UInt8.toNat_inj.1 (show x.toNat = 48 by omega))).elim
      have := digV_ge r (10 * 0 + (x.toNat - 48))
      rw [digV_cons, List.length_cons, Nat.add_sub_cancel]
      refine Nat.le_trans ?_ this
      calc 10 ^ r.length = 1 * 10 ^ r.length := (Nat.one_mul _).symm
        _ ≤ _ := Nat.mul_le_mul_right _ (by omega)
    have := hlow _ (dec_numeral u) (by omega)
    rw [b, hl] at this
    have h3 : 10 ^ 19 ≤ 10 ^ (nDigits u - 1) := Nat.pow_le_pow_right (by decide) (by omega)
    omega
theorem itoa_len {v : Int} (h0 : -9223372036854775808 ≤ v) (h1 : v ≤ 9223372036854775807) : (itoa v).length ≤ 20 := by
  by_cases hv : v < 0
  · obtain ⟨u, rfl⟩ : ∃ u : Nat, v = -(u : Int) := ⟨v.natAbs, by omega⟩
    have := dec_len_le (u := u) (by omega)
    rw [itoa_neg u (by omega), List.length_cons]; omega
  · obtain ⟨u, rfl⟩ : ∃ u : Nat, v = (u : Int) := ⟨v.toNat, by omega⟩
    have := dec_len_le (u := u) (by omega)
    rw [itoa_nonneg]; omega
theorem refNum_ok {s : List UInt8} {v : Int} (h : numS s = some v) : refNum s = (v, true) := by
  obtain ⟨⟨h0, h1⟩, rfl⟩ := num_iff.1 h
  by_cases hv : v < 0
  · obtain ⟨u, rfl⟩ : ∃ u : Nat, v = -(u : Int) := ⟨v.natAbs, by omega⟩
    obtain ⟨a, b, c, d⟩ := dec_dig u
    have hm : magS (itoa (-(u : Int))) = decDigits u := by rw [itoa_neg u (by omega)]; rfl
    have hl : (itoa (-(u : Int))).length = (decDigits u).length + 1 := by rw [itoa_neg u (by omega)]; rfl
    have h19 := dec_len_le (u := u) (by omega)
    have h1 : 1 ≤ (decDigits u).length := by
      rcases Nat.eq_zero_or_pos (decDigits u).length with e | e
      · exact (c (List.length_eq_zero_iff.1 e)).elim
      · exact e
    unfold refNum
    rw [hm, b, hl, if_neg (fun h => by rcases h with h | h | ⟨h, _⟩ <;> first | omega | (have := d h; omega)), if_pos (List.all_eq_true.2 a)]
    by_cases hx : 9223372036854775807 < u
    · obtain rfl : u = 9223372036854775808 := by omega
      have e := itoa_min
      have e2 : (decDigits 9223372036854775808).length = 19 := by
        have h3 := congrArg List.length e
        have h4 : (itoa (-9223372036854775808)).length = (decDigits 9223372036854775808).length + 1 := by
          rw [show (-9223372036854775808 : Int) = -((9223372036854775808 : Nat) : Int) by rfl, itoa_neg _ (by decide)]; rfl
        rw [h4] at h3
        have : min20.length = 20 := rfl
        omega
      rw [if_pos ⟨e2, hx⟩]
      have : itoa (-((9223372036854775808 : Nat) : Int)) = min20 := e
      rw [this]; rfl
    · rw [if_neg (by omega), if_pos (by omega)]
  · obtain ⟨u, rfl⟩ : ∃ u : Nat, v = (u : Int) := ⟨v.toNat, by omega⟩
    obtain ⟨a, b, c, d⟩ := dec_dig u
    have hm : magS (itoa (u : Int)) = decDigits u := by
      rw [itoa_nonneg]; unfold magS
      obtain ⟨x, r, hx⟩ : ∃ x r, decDigits u = x :: r := List.exists_cons_of_ne_nil c
      have h2 := isDig_iff.1 (a x (by rw [hx]; exact List.mem_cons_self ..))
      rw [if_neg]
      rw [hx]
      intro e
      have e2 : x = 45 := by simpa using e
      rw [e2] at h2
      have : (45 : UInt8).toNat = 45 := rfl
      omega
    have hl : (itoa (u : Int)).length = (decDigits u).length := by rw [itoa_nonneg]
    have h19 := dec_len_le (u := u) (by omega)
    have h1 : 1 ≤ (decDigits u).length := by
      rcases Nat.eq_zero_or_pos (decDigits u).length with e | e
      · exact (c (List.length_eq_zero_iff.1 e)).elim
      · exact e
    unfold refNum
    have hz : ¬ ((decDigits u).head? = some 48 ∧ 1 < (decDigits u).length) := fun ⟨h, h2⟩ => by have := (dec_numeral u).lead h; omega
    rw [hm, b, hl, if_neg (fun h => by rcases h with h | h | h <;> first | omega | exact hz h), if_pos (List.all_eq_true.2 a), if_neg (by omega), if_neg (by omega)]
theorem num_of_ref {s : List UInt8} (h : (refNum s).2 = true) : numS s = some (refNum s).1 := by
  unfold refNum at h ⊢
  split at h
  · cases h
  next hc =>
  rw [if_neg hc]
  split at h
  case isFalse => cases h
  next ha =>
  rw [if_pos ha]
  have ha' : ∀ c ∈ magS s, isDig c = true := List.all_eq_true.1 ha
  have hlen : ¬ (magS s).length < 1 := fun e => hc (.inl e)
  have hlen2 : ¬ 19 < (magS s).length := fun e => hc (.inr (.inl e))
  have hz : ¬ ((magS s).head? = some 48 ∧ 1 < s.length) := fun e => hc (.inr (.inr e))
  have hne : magS s ≠ [] := fun e => hlen (by rw [e]; decide)
  have hle : (magS s).length ≤ s.length := by unfold magS; split <;> simp
  have hN : Numeral (magS s) := ⟨hne, ha', fun e => by
    rcases Nat.lt_or_ge 1 s.length with h2 | h2
    · exact (hz ⟨e, h2⟩).elim
    · omega⟩
  have hD := dec_of _ _ rfl hN
  have hlt := digV_lt (magS s) 0 ha'
  split at h
  next hx =>
    rw [if_pos hx]
    have hs : s = min20 := by simpa using h
    refine num_iff.2 ⟨⟨by omega, by omega⟩, ?_⟩
    rw [itoa_min]; exact hs
  next hx =>
    rw [if_neg hx]
    have hup : digV 0 (magS s) ≤ 9223372036854775807 := by
      rcases Nat.lt_or_ge (magS s).length 19 with h3 | h3
      · have h4 : 10 ^ (magS s).length ≤ 10 ^ 18 := Nat.pow_le_pow_right (by decide) (by omega)
        have h5 : (0 + 1) * 10 ^ (magS s).length = 10 ^ (magS s).length := by rw [Nat.zero_add, Nat.one_mul]
        omega
      · rcases Nat.lt_or_ge 9223372036854775807 (digV 0 (magS s)) with h4 | h4
        · exact (hx ⟨by omega, h4⟩).elim
        · exact h4
    show numS s = some (if (magS s).length < s.length then -(digV 0 (magS s) : Int) else digV 0 (magS s))
    by_cases hm : s.head? = some 45
    · obtain ⟨c, r, rfl⟩ : ∃ c r, s = c :: r := by
        cases s with
        | nil => cases hm
        | cons c r => exact ⟨c, r, rfl⟩
      obtain rfl : c = 45 := by simpa using hm
      have em : magS (45 :: r) = r := rfl
      clear hN ha' ha h hc hne
      rw [em] at hlen hlen2 hz hle hD hlt hx hup ⊢
      rw [if_pos (by simp)]
      refine num_iff.2 ⟨⟨by omega, by omega⟩, ?_⟩
      have h0 : 1 ≤ digV 0 r := by
        rcases Nat.eq_zero_or_pos (digV 0 r) with e | e
        · exfalso
          rw [e, decDigits_one (by decide)] at hD
          refine hz ⟨by rw [← hD]; rfl, ?_⟩
          rw [← hD]; decide
        · exact e
      rw [itoa_neg _ h0, hD]
    · have em : magS s = s := by unfold magS; rw [if_neg hm]
      rw [em] at hlen hlen2 hz hle hD hlt hx hup ⊢
      rw [if_neg (by omega)]
      refine num_iff.2 ⟨⟨by omega, by omega⟩, ?_⟩
      rw [itoa_nonneg, hD]
theorem ref_fine (s : List UInt8) : (refNum s).2 = (numS s).isSome := by
  cases h : (refNum s).2 with
  | true => rw [num_of_ref h]; rfl
  | false =>
    cases h2 : numS s with
    | none => rfl
    | some v => rw [refNum_ok h2] at h; cases h
end Go.Proofs.YtgeedjlbajmdkaaGreatDoor
namespace Go.Proofs.YtgeedjlbajmdkaaGreatDoor
open Go.RowKit

theorem tx_take (s : ByteArray) (k : Nat) : tx (s.data.toList.take k) = s.extract 0 k := by
  have e : (s.extract 0 k).data.toList = s.data.toList.take k := by rw [Lib.extract_data]; simp
  rw [← tx_of (s.extract 0 k), e]
theorem tx_drop (s : ByteArray) (k : Nat) : tx (s.data.toList.drop k) = s.extract k s.size := by
  have e : (s.extract k s.size).data.toList = s.data.toList.drop k := by
    rw [Lib.extract_data, List.take_of_length_le]
    rw [List.length_drop, tl_len]; omega
  rw [← tx_of (s.extract k s.size), e]
set_option maxHeartbeats 1000000 in
theorem UpTo_any (s : ByteArray) (c : UInt8) (w : World) (hs : s.size ≤ 10000000) :
    Calls Tryz.prog 54 #[.string s, .int .u8 (c.toNat : Int)] w fun e w' => e = .returned (.tuple #[.string (tx (cutAt c s.data.toList).1), .string (tx (cutAt c s.data.toList).2.1), .bool (cutAt c s.data.toList).2.2]) ∧ Below w.heap.size w w' := by
  go_enter Tryz.func54, Tryz.ntmps54
  go_wp2
  go_loop [7] (fun i => ∃ k : Nat, k ≤ s.size ∧ i = .int .i64 k ∧ Hid (c ∉ s.data.toList.take k)) (fun i => s.size - (intOf i).toNat)
  case atStart => exact ⟨0, by omega, by go_num, by simp [Hid]⟩
  case round =>
    obtain ⟨k, hk, rfl, H⟩ := hrel
    by_cases hlt : k < s.size
    · have f1 : (0 : Int) ≤ (k : Int) ∧ (k : Int) < (s.size : Int) ∧ (k : Int) + 1 ≤ (s.size : Int) := by omega
      obtain ⟨f1, f2, f3⟩ := f1
      have hx : s.data.toList.take (k + 1) = s.data.toList.take k ++ [s[k]] := bytes_take_succ hlt
      by_cases hc : s[k] = c
      · have HE : Hid (cutAt c s.data.toList = (s.data.toList.take k, s.data.toList.drop (k + 1), true)) := by
          show _ = _
          have := cutAt_yes (B := s.data.toList.drop (k + 1)) H.out
          rw [← this]
          congr 1
          conv => lhs; rw [← List.take_append_drop (k + 1) s.data.toList, hx, hc]
          simp
        have HT := hide (tx_take s k)
        have HD := hide (tx_drop s (k + 1))
        have g2 : ((s[k].toNat : Int) == (c.toNat : Int)) = true := by rw [hc, beq_iff_eq]
        clear hc hx H
        go_wp2
        go_quiet (fail)
        go_wp2
        go_ret3
        refine ⟨?_, below_drewN (Below.refl _ _) _⟩
        rw [HE.out, HT.out, HD.out]
        rfl
      · have H2 : Hid (c ∉ s.data.toList.take (k + 1)) := by
          show _ ∉ _
          rw [hx]
          intro h
          rcases List.mem_append.1 h with h | h
          · exact H.out h
          · exact hc (List.mem_singleton.1 h).symm
        have g2 : ((s[k].toNat : Int) == (c.toNat : Int)) = false := by
          rw [beq_eq_false_iff_ne]; intro e; exact hc (UInt8.toNat_inj.1 (by omega))
        clear hc hx H
        go_wp2
        go_round
        case rel => exact ⟨k + 1, by omega, by go_num, H2⟩
        case measure => (simp [intOf]; omega)
    · obtain rfl : k = s.size := by omega
      have HE : Hid (cutAt c s.data.toList = (s.data.toList, [], false)) := by
        have := H.out
        rw [List.take_of_length_le (by rw [tl_len]; omega)] at this
        exact cutAt_no this
      have HT := hide (tx_of s)
      go_wp2
      go_ret3
      refine ⟨?_, Below.refl _ _⟩
      rw [HE.out, HT.out]
      rfl
theorem magS_yes {s : ByteArray} (hp : 0 < s.size) (hc : s[0] = 45) : magS s.data.toList = (s.extract 1 s.size).data.toList := by
  have e : (s.extract 1 s.size).data.toList = s.data.toList.drop 1 := by rw [← tx_drop, tx_list]
  rw [e]
  unfold magS
  rw [if_pos]
  rw [List.head?_eq_getElem?]
  show s.data.toList[0]? = _
  have : s.data.toList[0]? = some s[0] := by simp [ByteArray.getElem_eq_getElem_data, hp]
  rw [this, hc]
theorem magS_no {s : ByteArray} (h : ∀ hp : 0 < s.size, s[0] ≠ 45) : magS s.data.toList = s.data.toList := by
  unfold magS
  rw [if_neg]
  intro e
  rw [List.head?_eq_getElem?] at e
  have hp : 0 < s.size := by
    rcases Nat.eq_zero_or_pos s.size with h0 | h0
    · have : s.data.toList.length = 0 := by rw [tl_len]; exact h0
      rw [List.length_eq_zero_iff.1 this] at e; cases e
    · exact h0
  have : s.data.toList[0]? = some s[0] := by simp [ByteArray.getElem_eq_getElem_data, hp]
  rw [this] at e
  exact h hp (by simpa using e)
theorem dig_byte {c : UInt8} : isDig c = (!decide ((c.toNat : Int) < 48) && !decide (57 < (c.toNat : Int))) := by
  unfold isDig
  rw [Bool.eq_iff_iff]; simp; omega
theorem digV_take {t : ByteArray} {k : Nat} (h : k < t.size) : digV 0 (t.data.toList.take (k + 1)) = 10 * digV 0 (t.data.toList.take k) + (t[k].toNat - 48) := by
  rw [show t.data.toList.take (k + 1) = t.data.toList.take k ++ [t[k]] from bytes_take_succ h, digV_snoc]
theorem digV_bd {t : ByteArray} {k : Nat} (h19 : t.size ≤ 19) (hk : k ≤ t.size) (hd : t.data.toList.all isDig = true) (hx : ¬ (t.data.toList.length = 19 ∧ 9223372036854775807 < digV 0 t.data.toList)) : digV 0 (t.data.toList.take k) ≤ 9223372036854775807 := by
  have hd' : ∀ c ∈ t.data.toList, isDig c = true := List.all_eq_true.1 hd
  have e : t.data.toList = t.data.toList.take k ++ t.data.toList.drop k := (List.take_append_drop k _).symm
  have happ : ∀ (a b : List UInt8) (acc : Nat), digV acc (a ++ b) = digV (digV acc a) b := by
    intro a
    induction a with
    | nil => intro b acc; rw [List.nil_append, digV_nil]
    | cons c a ih => intro b acc; rw [List.cons_append, digV_cons, digV_cons, ih]
  have hm := digV_mono (t.data.toList.drop k) (digV 0 (t.data.toList.take k))
  rw [← happ, ← e] at hm
  by_cases h : t.data.toList.length = 19
  · have : ¬ 9223372036854775807 < digV 0 t.data.toList := fun h2 => hx ⟨h, h2⟩
    omega
  · have h1 := digV_lt t.data.toList 0 hd'
    rw [tl_len] at h h1
    have h2 : 10 ^ t.size ≤ 10 ^ 18 := Nat.pow_le_pow_right (by decide) (by omega)
    have h3 : (0 + 1) * 10 ^ t.size = 10 ^ t.size := by rw [Nat.zero_add, Nat.one_mul]
    have h4 : (10 : Nat) ^ 18 = 1000000000000000000 := by decide
    omega
theorem bl_gt (a b : List UInt8) : (!Op.bytesLess a b && !a == b) = Op.bytesLess b a := by
  rcases bl_tri a b with h | h | h
  · rw [h, bl_asymm h]; rfl
  · subst h; rw [bl_irrefl]; simp
  · rw [h, bl_asymm h]
    have : (a == b) = false := by
      rw [beq_eq_false_iff_ne]; intro e; subst e; rw [bl_irrefl] at h; cases h
    rw [this]; rfl
theorem wrap64_in {x : Int} (h0 : -9223372036854775808 ≤ x) (h1 : x ≤ 9223372036854775807) : wrap64 x = x := by unfold wrap64; omega
def refNum2 (t s : ByteArray) : Int × Bool := if t.data.toList.all isDig = true then (if t.data.toList.length = 19 ∧ 9223372036854775807 < digV 0 t.data.toList then (-9223372036854775808, decide (s.data.toList = min20)) else (if t.data.toList.length < s.data.toList.length then -(digV 0 t.data.toList : Int) else digV 0 t.data.toList, true)) else (0, false)
set_option maxRecDepth 100000 in
set_option maxHeartbeats 2000000 in
theorem Number_any (s : ByteArray) (w : World) (hs : s.size ≤ 10000000) :
    Calls Tryz.prog 56 #[.string s] w fun e w' => e = .returned (.tuple #[.int .i64 (refNum s.data.toList).1, .bool (refNum s.data.toList).2]) ∧ w = w' := by
  go_enter Tryz.func56, Tryz.ntmps56
  go_upto_region 2 with (fail)
  go_cut [16] from 9 to 16 (fun v wc => ∃ sg, v = .bool sg ∧ Hid (sg = true → magS s.data.toList = (s.extract 1 s.size).data.toList ∧ 0 < s.size) ∧ Hid (sg = false → magS s.data.toList = s.data.toList) ∧ w = wc)
  case first =>
    by_cases hp : 0 < s.size
    · have g2 : decide ((0 : Int) < (s.size : Int)) = true := by simp; omega
      by_cases hc : s[0] = 45
      · have HM := hide (magS_yes hp hc)
        have g1 : ((s[0].toNat : Int) == 45) = true := by rw [hc]; rfl
        clear hc
        go_wp2
        go_meet
        exact ⟨true, rfl, (fun _ => ⟨HM.out, hp⟩), (fun h => by cases h), rfl⟩
      · have HM := hide (magS_no (s := s) fun _ => hc)
        have g1 : ((s[0].toNat : Int) == 45) = false := by
          rw [beq_eq_false_iff_ne]; intro e; exact hc (UInt8.toNat_inj.1 (by show s[0].toNat = 45; omega))
        clear hc
        go_wp2
        go_meet
        exact ⟨false, rfl, (fun h => by cases h), (fun _ => HM.out), rfl⟩
    · have HM := hide (magS_no (s := s) fun h => absurd h hp)
      have g2 : s.size = 0 := by omega
      go_wp2
      go_meet
      exact ⟨false, rfl, (fun h => by cases h), (fun _ => HM.out), rfl⟩
  case rest =>
  obtain ⟨sg, rfl, HY, HN, rfl⟩ := hcut
  go_upto_if 16 with (fail)
  go_cut [4] from 17 to 18 (fun v wc => ∃ t : ByteArray, v = .string t ∧ Hid (magS s.data.toList = t.data.toList) ∧ t.size ≤ s.size ∧ w = wc)
  case first =>
    rcases Bool.eq_false_or_eq_true sg with hs1 | hs1
    · have hp := (HY.out hs1).2
      have HM := hide (HY.out hs1).1
      subst hs1
      go_wp2
      go_meet
      exact ⟨_, rfl, HM, by rw [ByteArray.size_extract]; omega, rfl⟩
    · have HM := hide (HN.out hs1)
      subst hs1
      go_wp2
      go_meet
      exact ⟨_, rfl, HM, Nat.le_refl _, rfl⟩
  case rest =>
  obtain ⟨t, rfl, HM, hts, rfl⟩ := hcut
  go_upto_region 4 with (fail)
  go_cut [36] from 19 to 36 (fun v wc => ∃ bad, v = .bool bad ∧ Hid (bad = true → refNum s.data.toList = (0, false)) ∧ Hid (bad = false → 0 < t.size ∧ t.size ≤ 19 ∧ refNum s.data.toList = refNum2 t s) ∧ w = wc)
  case first =>
    by_cases h1 : t.size < 1
    · have HR : Hid (refNum s.data.toList = (0, false)) := by
        show _ = _
        unfold refNum; rw [HM.out, if_pos (.inl (by rw [tl_len]; omega))]
      have e1 : t.size = 0 := by omega
      clear HM h1
      go_wp2
      go_meet
      exact ⟨true, rfl, (fun _ => HR.out), (fun h => by cases h), rfl⟩
    have e1 : decide ((t.size : Int) < 1) = false := by simp; omega
    by_cases h2 : 19 < t.size
    · have HR : Hid (refNum s.data.toList = (0, false)) := by
        show _ = _
        unfold refNum; rw [HM.out, if_pos (.inr (.inl (by rw [tl_len]; omega)))]
      have e2 : decide ((19 : Int) < (t.size : Int)) = true := by simp; omega
      clear HM
      go_wp2
      go_meet
      exact ⟨true, rfl, (fun _ => HR.out), (fun h => by cases h), rfl⟩
    have e2 : decide ((19 : Int) < (t.size : Int)) = false := by simp; omega
    have h0 : 0 < t.size := by omega
    have hh : t.data.toList.head? = some t[0] := by
      rw [List.head?_eq_getElem?]
      simp [ByteArray.getElem_eq_getElem_data, h0]
    by_cases h3 : t[0] = 48 ∧ 1 < s.size
    · have HR : Hid (refNum s.data.toList = (0, false)) := by
        show _ = _
        unfold refNum; rw [HM.out, if_pos (.inr (.inr ⟨by rw [hh, h3.1], by rw [tl_len]; exact h3.2⟩))]
      have e3 : ((t[0].toNat : Int) == 48) = true := by rw [h3.1]; rfl
      have e4 : decide ((1 : Int) < (s.size : Int)) = true := by simp; omega
      clear HM hh h3
      go_wp2
      go_meet
      exact ⟨true, rfl, (fun _ => HR.out), (fun h => by cases h), rfl⟩
    have HR : Hid (0 < t.size ∧ t.size ≤ 19 ∧ refNum s.data.toList = refNum2 t s) := by
      refine ⟨h0, by omega, ?_⟩
      unfold refNum refNum2
      rw [HM.out, if_neg]
      rintro (h | h | ⟨h, h'⟩)
      · rw [tl_len] at h; omega
      · rw [tl_len] at h; omega
      · rw [hh] at h; rw [tl_len] at h'; exact h3 ⟨by simpa using h, h'⟩
    by_cases h4 : t[0] = 48
    · have e3 : ((t[0].toNat : Int) == 48) = true := by rw [h4]; rfl
      have e4 : decide ((1 : Int) < (s.size : Int)) = false := by have : ¬ 1 < s.size := fun h => h3 ⟨h4, h⟩; simp; omega
      clear HM hh h3 h4
      go_wp2
      go_meet
      exact ⟨false, rfl, (fun h => by cases h), (fun _ => HR.out), rfl⟩
    · have e3 : ((t[0].toNat : Int) == 48) = false := by
        rw [beq_eq_false_iff_ne]; intro e; exact h4 (UInt8.toNat_inj.1 (by show t[0].toNat = 48; omega))
      clear HM hh h3 h4
      go_wp2
      go_meet
      exact ⟨false, rfl, (fun h => by cases h), (fun _ => HR.out), rfl⟩
  case rest =>
  obtain ⟨bad, rfl, HY, HN, rfl⟩ := hcut
  rcases Bool.eq_false_or_eq_true bad with hb | hb
  · have HR := hide (HY.out hb)
    subst hb
    clear HY HN
    go_wp2
    go_ret2
    exact ⟨by rw [HR.out]; rfl, rfl⟩
  obtain ⟨h0, h19, hr⟩ := HN.out hb
  have HR := hide hr
  subst hb
  clear HY HN hr HM
  go_wp2_with fail
  go_loop [5] (fun i => ∃ k : Nat, k ≤ t.size ∧ i = .int .i64 k ∧ Hid ((t.data.toList.take k).all isDig = true)) (fun i => t.size - (intOf i).toNat)
  case atStart => exact ⟨0, by omega, by go_num, rfl⟩
  case round =>
    obtain ⟨k, hk, rfl, H⟩ := hrel
    by_cases hlt : k < t.size
    · have f1 : (0 : Int) ≤ (k : Int) ∧ (k : Int) < (t.size : Int) ∧ (k : Int) + 1 ≤ (t.size : Int) := by omega
      obtain ⟨f1, f2, f3⟩ := f1
      have hx : t.data.toList.take (k + 1) = t.data.toList.take k ++ [t[k]] := bytes_take_succ hlt
      have hd := dig_byte (c := t[k])
      by_cases hc : isDig t[k] = true
      · have H2 : Hid ((t.data.toList.take (k + 1)).all isDig = true) := by
          show _ = _
          rw [hx, List.all_append, H.out]; simp [hc]
        rw [hd] at hc
        simp only [Bool.and_eq_true, Bool.not_eq_true'] at hc
        obtain ⟨g1, g2⟩ := hc
        clear hx hd H
        go_wp2
        go_round
        case rel => exact ⟨k + 1, by omega, by go_num, H2⟩
        case measure => (simp [intOf]; omega)
      · have H2 : Hid (refNum2 t s = (0, false)) := by
          show _ = _
          unfold refNum2
          rw [if_neg]
          intro h
          exact hc (List.all_eq_true.1 h _ (by rw [← List.take_append_drop (k + 1) t.data.toList, hx]; simp))
        rw [hd] at hc
        by_cases hg : decide ((t[k].toNat : Int) < 48) = true
        · clear hx hd H hc
          go_wp2
          go_ret2
          exact ⟨by rw [HR.out, H2.out]; rfl, rfl⟩
        · have g1 : decide ((t[k].toNat : Int) < 48) = false := by simpa using hg
          have g2 : decide (57 < (t[k].toNat : Int)) = true := by
            rw [g1] at hc
            simpa using hc
          clear hx hd H hc hg
          go_wp2
          go_ret2
          exact ⟨by rw [HR.out, H2.out]; rfl, rfl⟩
    · obtain rfl : k = t.size := by omega
      have hall : t.data.toList.all isDig = true := by
        have := H.out
        rwa [List.take_of_length_le (by rw [tl_len]; omega)] at this
      have HA := hide hall
      clear hall H
      go_upto_region 11 with (fail)
      go_cut [59] from 53 to 59 (fun v wc => ∃ bad, v = .bool bad ∧ Hid (bad = true ↔ t.data.toList.length = 19 ∧ 9223372036854775807 < digV 0 t.data.toList) ∧ w = wc)
      case first =>
        by_cases h1 : t.size = 19
        · have e1 : ((t.size : Int) == 19) = true := by rw [h1]; rfl
          obtain ⟨r, hr⟩ : ∃ r, decide (9223372036854775807 < digV 0 t.data.toList) = r := ⟨_, rfl⟩
          have HRR := hide hr
          have hq : Hid (Op.bytesLess max19 t.toList = r) := by
            show _ = _
            rw [tl]
            have h3 := less_dig max19 t.data.toList 0 (by rw [tl_len, h1]; rfl) (by decide) (List.all_eq_true.1 HA.out)
            rw [show digV 0 max19 = 9223372036854775807 by decide +kernel] at h3
            rw [← hr, ← h3]
          have H1 := hide h1
          clear hr h1
          go_wp2
          go_meet
          exact ⟨r, congrArg Value.bool ((bl_gt t.toList max19).trans hq.out), (by rw [← HRR.out, decide_eq_true_eq]; exact ⟨fun h => ⟨by rw [tl_len]; exact H1.out, h⟩, fun h => h.2⟩), rfl⟩
        · have e1 : ((t.size : Int) == 19) = false := by rw [beq_eq_false_iff_ne]; omega
          go_wp2
          go_meet
          exact ⟨false, rfl, (by constructor; (intro h; cases h); (intro h; exact absurd h.1 (by rw [tl_len]; exact h1))), rfl⟩
      case rest =>
      obtain ⟨big, rfl, HBG, rfl⟩ := hcut
      rcases Bool.eq_false_or_eq_true big with hb | hb
      · have H2 : Hid (refNum2 t s = (-9223372036854775808, decide (s.data.toList = min20))) := by
          show _ = _
          unfold refNum2
          rw [if_pos HA.out, if_pos (HBG.out.1 hb)]
        subst hb
        clear HBG
        go_wp2
        go_ret2
        refine ⟨?_, rfl⟩
        rw [HR.out, H2.out]
        show Ending.returned (.tuple #[.int .i64 (-9223372036854775808), .bool (s.toList == min20)]) = _
        rw [tl]
        by_cases he : s.data.toList = min20
        · simp [he]
        · rw [decide_eq_false he, show (s.data.toList == min20) = false by rw [beq_eq_false_iff_ne]; exact he]
      have hnx : ¬ (t.data.toList.length = 19 ∧ 9223372036854775807 < digV 0 t.data.toList) := fun h => by
        have := HBG.out.2 h
        rw [hb] at this; cases this
      have H2 : Hid (refNum2 t s = (if t.data.toList.length < s.data.toList.length then -(digV 0 t.data.toList : Int) else digV 0 t.data.toList, true)) := by
        show _ = _
        unfold refNum2
        rw [if_pos HA.out, if_neg hnx]
      have HNX := hide hnx
      subst hb
      clear HBG hnx hlt hk
      go_wp2_with fail
      go_loop [6, 7] (fun n i => ∃ k : Nat, k ≤ t.size ∧ i = .int .i64 k ∧ n = .int .i64 (digV 0 (t.data.toList.take k) : Nat)) (fun _ i => t.size - (intOf i).toNat)
      case atStart => exact ⟨0, by omega, by go_num, rfl⟩
      case round =>
        obtain ⟨k, hk, rfl, rfl⟩ := hrel
        have hb := digV_bd h19 hk HA.out HNX.out
        by_cases hlt : k < t.size
        · have f1 : (0 : Int) ≤ (k : Int) ∧ (k : Int) < (t.size : Int) ∧ (k : Int) + 1 ≤ (t.size : Int) := by omega
          obtain ⟨f1, f2, f3⟩ := f1
          have hdg := isDig_iff.1 (List.all_eq_true.1 HA.out t[k] (by
            have hx : t.data.toList.take (k + 1) = t.data.toList.take k ++ [t[k]] := bytes_take_succ hlt
            rw [← List.take_append_drop (k + 1) t.data.toList, hx]; simp))
          obtain ⟨d1, d2⟩ := hdg
          have hb2 := digV_bd h19 (k := k + 1) (by omega) HA.out HNX.out
          have ht := digV_take hlt
          have HT := hide ht
          generalize hV2 : digV 0 (t.data.toList.take (k + 1)) = V2 at *
          have HV2 := hide hV2
          clear hV2
          generalize digV 0 (t.data.toList.take k) = V1 at *
          have hv : V1 ≤ 922337203685477580 := by omega
          clear ht hb
          go_wp2
          go_round
          case rel => exact ⟨k + 1, by omega, by go_num, by rw [wrap64_in (by omega) (by have := HT.out; omega)]; have := HT.out; exact congrArg (Value.int .i64) (by rw [HV2.out, this]; omega)⟩
          case measure => (simp [intOf]; omega)
        · obtain rfl : k = t.size := by omega
          have e := List.take_of_length_le (l := t.data.toList) (i := t.size) (by rw [tl_len]; omega)
          rw [e] at hb ⊢
          have H2' : Hid (refNum2 t s = (if t.size < s.size then -(digV 0 t.data.toList : Int) else digV 0 t.data.toList, true)) := by
            show _ = _
            rw [H2.out, tl_len, tl_len]
          generalize digV 0 t.data.toList = V at *
          clear e hlt hk H2 HNX HA
          by_cases hsg : t.size < s.size
          · have HF : Hid (refNum s.data.toList = (-(V : Int), true)) := by show _ = _; rw [HR.out, H2'.out, if_pos hsg]
            go_wp2
            go_ret2
            exact ⟨by rw [HF.out]; rfl, rfl⟩
          · have HF : Hid (refNum s.data.toList = ((V : Int), true)) := by show _ = _; rw [HR.out, H2'.out, if_neg hsg]
            go_wp2
            go_ret2
            exact ⟨by rw [HF.out]; rfl, rfl⟩
end Go.Proofs.YtgeedjlbajmdkaaGreatDoor
