/- The text of pairs, and how it is read (no program). -/
import Derived.Test.YtjkggijkccbcpaaDoorPairSum
import Derived.Lib.Split
import Derived.Lib.IndexMore
import Derived.Lib.ItoaMem
import Derived.Lib.AtoiAllCases
import GoSem.Op.String
set_option linter.unusedSimpArgs false
set_option linter.unusedVariables false
/- Plain laws of texts: what stands ahead of a byte, what between such bytes; words. -/
namespace Go.Proofs.YtjkggijkccbcpaaDoor
open Go.RowKit

/-- a text of these bytes -/
def tx (l : List UInt8) : ByteArray := ⟨l.toArray⟩
theorem tx_list (l : List UInt8) : (tx l).data.toList = l := by simp [tx]
theorem tx_of (s : ByteArray) : tx s.data.toList = s := by cases s; simp [tx]
theorem tx_inj {a b : List UInt8} (h : tx a = tx b) : a = b := by rw [← tx_list a, h, tx_list]
theorem tx_size (l : List UInt8) : (tx l).size = l.length := by simp [tx, ByteArray.size]

/-- what stands ahead of the first c, and behind it -/
def cutAt (c : UInt8) : List UInt8 → List UInt8 × List UInt8 × Bool
  | [] => ([], [], false)
  | b :: l => if b = c then ([], l, true) else (b :: (cutAt c l).1, (cutAt c l).2.1, (cutAt c l).2.2)
/-- what stands between -/
def splitAt (c : UInt8) : List UInt8 → List (List UInt8)
  | [] => [[]]
  | b :: l => if b = c then [] :: splitAt c l else match splitAt c l with
    | h :: t => (b :: h) :: t
    | [] => [[b]]
theorem splitAt_ne (c : UInt8) (l : List UInt8) : splitAt c l ≠ [] := by
  cases l with
  | nil => simp [splitAt]
  | cons b l =>
    unfold splitAt
    split
    · simp
    · split <;> simp
theorem occ_one (c : UInt8) (l : List UInt8) (j : Nat) : Lib.occAt l [c] j = (l[j]? == some c) := by
  unfold Lib.occAt
  cases h : l.drop j with
  | nil =>
    have hl : l.length ≤ j := by simpa using h
    rw [List.getElem?_eq_none hl]; simp
  | cons b t =>
    have hb : l[j]? = some b := by
      have := congrArg List.head? h
      rw [List.head?_drop] at this
      simpa using this
    rw [hb]
    by_cases e : c = b
    · subst e; simp
    · have e1 : (c == b) = false := by simpa using e
      have e2 : (b == c) = false := by simp; exact fun h => e h.symm
      simp [List.isPrefixOf, e1, e2]
theorem index_no {c : UInt8} {l : List UInt8} (h : c ∉ l) : Lib.index l [c] = -1 := by
  refine Lib.index_none fun j _ => ?_
  rw [occ_one]
  cases hj : l[j]? with
  | none => rfl
  | some b =>
    have : b ≠ c := fun e => h (e ▸ List.mem_of_getElem? hj)
    simp [this]
theorem index_yes {c : UInt8} {A B : List UInt8} (h : c ∉ A) : Lib.index (A ++ c :: B) [c] = A.length := by
  refine Lib.index_first (by simp) ?_ fun j hj => ?_
  · rw [occ_one, List.getElem?_append_right (Nat.le_refl _)]; simp
  · rw [occ_one, List.getElem?_append_left hj]
    have hx : A[j]? = some A[j] := List.getElem?_eq_getElem hj
    rw [hx]
    have : A[j] ≠ c := fun e => h (e ▸ List.getElem_mem hj)
    simp [this]
theorem first_of (c : UInt8) : ∀ (l : List UInt8), c ∉ l ∨ ∃ A B, l = A ++ c :: B ∧ c ∉ A
  | [] => .inl (by simp)
  | b :: l => by
    by_cases e : b = c
    · subst e; exact .inr ⟨[], l, rfl, by simp⟩
    · rcases first_of c l with h | ⟨A, B, h, hA⟩
      · refine .inl ?_
        rw [List.mem_cons]
        rintro (h2 | h2)
        · exact e h2.symm
        · exact h h2
      · refine .inr ⟨b :: A, B, by rw [h]; rfl, ?_⟩
        rw [List.mem_cons]
        rintro (h2 | h2)
        · exact e h2.symm
        · exact hA h2
theorem cutAt_no {c : UInt8} : ∀ {l : List UInt8}, c ∉ l → cutAt c l = (l, [], false)
  | [], _ => rfl
  | b :: l, h => by
    rw [List.mem_cons, not_or] at h
    unfold cutAt
    rw [if_neg (fun e => h.1 e.symm), cutAt_no h.2]
theorem cutAt_yes {c : UInt8} : ∀ {A B : List UInt8}, c ∉ A → cutAt c (A ++ c :: B) = (A, B, true)
  | [], B, _ => by simp [cutAt]
  | a :: A, B, h => by
    rw [List.mem_cons, not_or] at h
    rw [List.cons_append]
    unfold cutAt
    rw [if_neg (fun e => h.1 e.symm), cutAt_yes h.2]
theorem cut_eq (c : UInt8) (l : List UInt8) : Lib.cut l [c] = cutAt c l := by
  unfold Lib.cut
  rcases first_of c l with h | ⟨A, B, rfl, hA⟩
  · rw [index_no h, cutAt_no h, if_neg (by omega)]
  · rw [index_yes hA, cutAt_yes hA, if_pos (by omega)]
    simp
theorem splitAt_no {c : UInt8} : ∀ {l : List UInt8}, c ∉ l → splitAt c l = [l]
  | [], _ => rfl
  | b :: l, h => by
    rw [List.mem_cons, not_or] at h
    unfold splitAt
    rw [if_neg (fun e => h.1 e.symm), splitAt_no h.2]
theorem splitAt_yes {c : UInt8} : ∀ {A B : List UInt8}, c ∉ A → splitAt c (A ++ c :: B) = A :: splitAt c B
  | [], B, _ => by simp [splitAt]
  | a :: A, B, h => by
    rw [List.mem_cons, not_or] at h
    rw [List.cons_append]
    conv => lhs; unfold splitAt
    rw [if_neg (fun e => h.1 e.symm), splitAt_yes h.2]
theorem splitK_eq (c : UInt8) : ∀ (n : Nat) (l : List UInt8), l.length ≤ n → Lib.splitK [c] 0 (Lib.count l [c]) l = splitAt c l := by
  intro n
  induction n with
  | zero =>
    intro l hl
    have : l = [] := List.length_eq_zero_iff.1 (by omega)
    subst this
    rw [Lib.count_miss (index_no (by simp))]; rfl
  | succ n ih =>
    intro l hl
    rcases first_of c l with h | ⟨A, B, rfl, hA⟩
    · rw [Lib.count_miss (index_no h), splitAt_no h]; rfl
    · have hi := index_yes (B := B) hA
      rw [Lib.count_hit (by simp) hi, splitAt_yes hA, Nat.add_comm, Lib.splitK, if_neg (by rw [hi]; simp), hi]
      have e : (A ++ c :: B).drop (((A.length : Nat) : Int).toNat + [c].length) = B := by
        rw [Int.toNat_natCast, List.length_singleton, List.drop_append]
        simp
      have e2 : (A ++ c :: B).drop (A.length + [c].length) = B := by simp
      rw [e, e2, ih B (by simp at hl; omega)]
      simp
theorem splitB_eq (c : UInt8) (s : ByteArray) : Lib.splitB (tx [c]) 0 (Lib.countB s (tx [c])) s = (splitAt c s.data.toList).map tx := by
  have h := Lib.splitB_data (tx [c]) 0 (Lib.countB s (tx [c])) s
  have hc : Lib.countB s (tx [c]) = Lib.count s.data.toList [c] := by rw [show Lib.countB s (tx [c]) = Lib.count s.data.toList (tx [c]).data.toList from rfl, tx_list]
  rw [tx_list, hc, splitK_eq c _ _ (Nat.le_refl _)] at h
  rw [← h, List.map_map, hc]
  conv => lhs; rw [← List.map_id (Lib.splitB (tx [c]) 0 (Lib.count s.data.toList [c]) s)]
  refine List.map_congr_left fun x _ => ?_
  exact (tx_of x).symm

/-- words: what stands between blanks and is not empty -/
def wordsL (l : List UInt8) : List (List UInt8) := (splitAt 32 l).filter fun w => !w.isEmpty
/-- one byte more: the words that are whole, the one that is begun -/
def wstep (st : List (List UInt8) × List UInt8) (c : UInt8) : List (List UInt8) × List UInt8 := if c = 32 then (if st.2.isEmpty then st.1 else st.1 ++ [st.2], []) else (st.1, st.2 ++ [c])
def wend (st : List (List UInt8) × List UInt8) : List (List UInt8) := if st.2.isEmpty then st.1 else st.1 ++ [st.2]
theorem words_fold : ∀ (l : List UInt8) (ws : List (List UInt8)) (w : List UInt8), wend (l.foldl wstep (ws, w)) = ws ++ ((match splitAt 32 l with
    | h :: t => (w ++ h) :: t
    | [] => []).filter fun w => !w.isEmpty)
  | [], ws, w => by
    simp only [List.foldl_nil, wend, splitAt, List.append_nil]
    cases w <;> simp
  | b :: l, ws, w => by
    rw [List.foldl_cons]
    by_cases e : b = 32
    · subst e
      have h1 : wstep (ws, w) 32 = (if w.isEmpty then ws else ws ++ [w], []) := by simp [wstep]
      rw [h1, words_fold l]
      have h2 : splitAt 32 (32 :: l) = [] :: splitAt 32 l := by simp [splitAt]
      rw [h2]
      cases hs : splitAt 32 l with
      | nil => exact absurd hs (splitAt_ne _ _)
      | cons h t =>
        cases w <;> simp [List.filter_cons]
    · have h1 : wstep (ws, w) b = (ws, w ++ [b]) := by simp [wstep, e]
      rw [h1, words_fold l]
      cases hs : splitAt 32 l with
      | nil => exact absurd hs (splitAt_ne _ _)
      | cons h t =>
        have h2 : splitAt 32 (b :: l) = (b :: h) :: t := by unfold splitAt; rw [if_neg e, hs]
        rw [h2]; simp
theorem words_eq (l : List UInt8) : wend (l.foldl wstep ([], [])) = wordsL l := by
  rw [words_fold]
  unfold wordsL
  cases hs : splitAt 32 l with
  | nil => exact absurd hs (splitAt_ne _ _)
  | cons h t => simp
end Go.Proofs.YtjkggijkccbcpaaDoor
/- Numbers and their decimal numerals: what strconv's two functions say together, and the document's reading (no program). -/
namespace Go.Proofs.YtjkggijkccbcpaaDoor
open Go.Lib

def isDig (c : UInt8) : Bool := decide (48 ≤ c.toNat) && decide (c.toNat ≤ 57)
theorem isDig_iff {c : UInt8} : isDig c = true ↔ 48 ≤ c.toNat ∧ c.toNat ≤ 57 := by unfold isDig; simp
/-- what digits spell -/
def digV : Nat → List UInt8 → Nat
  | acc, [] => acc
  | acc, c :: r => digV (10 * acc + (c.toNat - 48)) r
theorem digV_nil (acc : Nat) : digV acc [] = acc := by unfold digV; rfl
theorem digV_cons (acc : Nat) (c : UInt8) (r : List UInt8) : digV acc (c :: r) = digV (10 * acc + (c.toNat - 48)) r := by conv => lhs; unfold digV
theorem digV_snoc (l : List UInt8) : ∀ (acc : Nat) (c : UInt8), digV acc (l ++ [c]) = 10 * digV acc l + (c.toNat - 48) := by
  induction l with
  | nil => intro acc c; rw [List.nil_append, digV_cons, digV_nil, digV_nil]
  | cons d l ih => intro acc c; rw [List.cons_append, digV_cons, digV_cons]; exact ih _ c
theorem digV_mono (l : List UInt8) : ∀ (acc : Nat), acc ≤ digV acc l := by
  induction l with
  | nil => intro acc; rw [digV_nil]; exact Nat.le_refl _
  | cons c l ih => intro acc; rw [digV_cons]; have := ih (10 * acc + (c.toNat - 48)); omega
theorem digV_lt (l : List UInt8) : ∀ (acc : Nat), (∀ c ∈ l, isDig c = true) → digV acc l < (acc + 1) * 10 ^ l.length := by
  induction l with
  | nil => intro acc _; rw [digV_nil]; simp
  | cons c l ih =>
    intro acc h
    have h1 := isDig_iff.1 (h c (List.mem_cons_self ..))
    have h2 := ih (10 * acc + (c.toNat - 48)) fun x hx => h x (List.mem_cons_of_mem _ hx)
    rw [digV_cons, List.length_cons]
    have h3 : (10 * acc + (c.toNat - 48) + 1) * 10 ^ l.length ≤ (10 * (acc + 1)) * 10 ^ l.length := Nat.mul_le_mul_right _ (by omega)
    have h4 : (10 * (acc + 1)) * 10 ^ l.length = (acc + 1) * 10 ^ (l.length + 1) := by rw [Nat.pow_succ, Nat.mul_comm 10 (acc + 1), Nat.mul_assoc, Nat.mul_comm 10 (10 ^ _)]
    omega
theorem digV_ge (l : List UInt8) : ∀ (acc : Nat), acc * 10 ^ l.length ≤ digV acc l := by
  induction l with
  | nil => intro acc; rw [digV_nil]; simp
  | cons y r ih =>
    intro acc
    rw [digV_cons, List.length_cons]
    refine Nat.le_trans ?_ (ih _)
    rw [Nat.pow_succ, Nat.mul_comm (10 ^ _) 10, ← Nat.mul_assoc]
    exact Nat.mul_le_mul_right _ (by omega)
theorem digV_step {l m : List UInt8} {a b : Nat} (hl : l.length = m.length) (hd : ∀ c ∈ l, isDig c = true) (h : a < b) : digV a l < digV b m := by
  have h1 := digV_lt l a hd
  have h2 := digV_ge m b
  have h3 : (a + 1) * 10 ^ l.length ≤ b * 10 ^ m.length := by rw [hl]; exact Nat.mul_le_mul_right _ h
  omega
/-- numerals of one length are in order as their numbers are -/
theorem less_dig (l : List UInt8) : ∀ (m : List UInt8) (acc : Nat), l.length = m.length → (∀ c ∈ l, isDig c = true) → (∀ c ∈ m, isDig c = true) → Op.bytesLess l m = decide (digV acc l < digV acc m) := by
  induction l with
  | nil =>
    intro m acc h _ _
    obtain rfl : m = [] := List.length_eq_zero_iff.1 h.symm
    simp [Op.bytesLess]
  | cons x l ih =>
    intro m acc h hx hy
    cases m with
    | nil => simp at h
    | cons y m =>
      have x1 := isDig_iff.1 (hx x (List.mem_cons_self ..))
      have y1 := isDig_iff.1 (hy y (List.mem_cons_self ..))
      have hlen : l.length = m.length := by simpa using h
      have hx' : ∀ c ∈ l, isDig c = true := fun c hc => hx c (List.mem_cons_of_mem _ hc)
      have hy' : ∀ c ∈ m, isDig c = true := fun c hc => hy c (List.mem_cons_of_mem _ hc)
      rw [digV_cons, digV_cons]
      simp only [Op.bytesLess]
      rcases Nat.lt_trichotomy x.toNat y.toNat with h1 | h1 | h1
      · have h2 : decide (x < y) = true := by simpa [UInt8.lt_iff_toNat_lt] using h1
        have h3 := digV_step (a := 10 * acc + (x.toNat - 48)) (b := 10 * acc + (y.toNat - 48)) hlen hx' (by omega)
        rw [h2, Bool.true_or]
        exact (decide_eq_true h3).symm
      · obtain rfl : x = y := UInt8.toNat_inj.1 h1
        rw [ih m (10 * acc + (x.toNat - 48)) hlen hx' hy']
        have h2 : decide (x < x) = false := by simp [UInt8.lt_iff_toNat_lt]
        rw [h2, Bool.false_or, beq_self_eq_true, Bool.true_and]
      · have h2 : decide (x < y) = false := by simp [UInt8.lt_iff_toNat_lt]; omega
        have h3 : (x == y) = false := by rw [beq_eq_false_iff_ne]; intro e; subst e; omega
        have h4 := digV_step (a := 10 * acc + (y.toNat - 48)) (b := 10 * acc + (x.toNat - 48)) hlen.symm hy' (by omega)
        have h5 : ¬ digV (10 * acc + (x.toNat - 48)) l < digV (10 * acc + (y.toNat - 48)) m := by omega
        rw [h2, h3, Bool.false_and, Bool.or_false]
        exact (decide_eq_false h5).symm
theorem parse_ok (l : List UInt8) : ∀ (acc : Nat), (∀ c ∈ l, isDig c = true) → digV acc l < 18446744073709551616 → parseUint10 acc l = .ok (digV acc l) := by
  induction l with
  | nil => intro acc _ _; rw [digV_nil]; simp only [parseUint10]
  | cons c l ih =>
    intro acc h hv
    have h1 := isDig_iff.1 (h c (List.mem_cons_self ..))
    have h2 := digV_mono l (10 * acc + (c.toNat - 48))
    rw [digV_cons] at hv ⊢
    simp only [parseUint10]
    rw [if_pos h1, if_neg (by omega), if_neg (by omega), Nat.mul_comm acc 10]
    exact ih _ (fun x hx => h x (List.mem_cons_of_mem _ hx)) hv
theorem parse_inv (l : List UInt8) : ∀ (acc u : Nat), parseUint10 acc l = .ok u → (∀ c ∈ l, isDig c = true) ∧ digV acc l = u := by
  induction l with
  | nil => intro acc u h; simp only [parseUint10] at h; injection h with h; rw [digV_nil]; exact ⟨fun c hc => (by cases hc), h⟩
  | cons c l ih =>
    intro acc u h
    simp only [parseUint10] at h
    split at h
    · next h1 =>
      split at h
      · cases h
      · split at h
        · cases h
        · obtain ⟨a, b⟩ := ih _ u h
          refine ⟨fun x hx => ?_, ?_⟩
          · rcases List.mem_cons.1 hx with rfl | hx
            · exact isDig_iff.2 h1
            · exact a x hx
          · rw [digV_cons, Nat.mul_comm 10 acc]; exact b
    · cases h
theorem u8_nat {n : Nat} (h : n < 256) : (UInt8.ofNat n).toNat = n := by simp [UInt8.toNat_ofNat']; omega
/-- a numeral: digits, of which none too many -/
structure Numeral (l : List UInt8) : Prop where
  ne : l ≠ []
  dig : ∀ c ∈ l, isDig c = true
  lead : l.head? = some 48 → l.length = 1
theorem dec_dig (u : Nat) : (∀ c ∈ decDigits u, isDig c = true) ∧ digV 0 (decDigits u) = u ∧ decDigits u ≠ [] ∧ ((decDigits u).head? = some 48 → u = 0) := by
  induction u using Nat.strongRecOn with
  | _ u ih =>
    by_cases h : u < 10
    · rw [decDigits, dif_pos h]
      have e : (UInt8.ofNat (48 + u)).toNat = 48 + u := u8_nat (by omega)
      refine ⟨fun c hc => ?_, ?_, by simp, fun h2 => ?_⟩
      · obtain rfl : c = UInt8.ofNat (48 + u) := by simpa using hc
        rw [isDig_iff, e]; omega
      · rw [digV_cons, digV_nil, e]; omega
      · have h3 : UInt8.ofNat (48 + u) = 48 := by simpa using h2
        rw [h3] at e
        have : (48 : UInt8).toNat = 48 := rfl
        omega
    · obtain ⟨a, b, c, d⟩ := ih (u / 10) (by omega)
      rw [decDigits, dif_neg h]
      have e : (UInt8.ofNat (48 + u % 10)).toNat = 48 + u % 10 := u8_nat (by omega)
      refine ⟨fun x hx => ?_, ?_, by simp, fun h2 => ?_⟩
      · rcases List.mem_append.1 hx with hx | hx
        · exact a x hx
        · obtain rfl : x = UInt8.ofNat (48 + u % 10) := by simpa using hx
          rw [isDig_iff, e]; omega
      · rw [digV_snoc, b, e]; omega
      · obtain ⟨y, q, hy⟩ : ∃ y q, decDigits (u / 10) = y :: q := List.exists_cons_of_ne_nil c
        rw [hy] at h2 d
        have := d (by simpa using h2)
        omega
theorem dec_numeral (u : Nat) : Numeral (decDigits u) := by
  obtain ⟨a, b, c, d⟩ := dec_dig u
  refine ⟨c, a, fun h => ?_⟩
  rw [d h, decDigits_one (by decide)]; rfl
theorem dec_of : ∀ (n : Nat) (l : List UInt8), l.length = n → Numeral l → decDigits (digV 0 l) = l := by
  intro n
  induction n with
  | zero => intro l hl h; exact (h.ne (List.length_eq_zero_iff.1 hl)).elim
  | succ n ih =>
    intro l hl h
    have hne : l ≠ [] := h.ne
    obtain ⟨p, c, rfl⟩ : ∃ p c, l = p ++ [c] := ⟨l.dropLast, l.getLast hne, (List.dropLast_concat_getLast hne).symm⟩
    have hc := isDig_iff.1 (h.dig c (by simp))
    rw [digV_snoc]
    cases p with
    | nil =>
      rw [digV_nil, List.nil_append, decDigits_one (by omega), show 48 + (10 * 0 + (c.toNat - 48)) = c.toNat by omega]
      simp
    | cons d q =>
      have hd := isDig_iff.1 (h.dig d (by simp))
      have h48 : d ≠ 48 := fun e => by
        have := h.lead (by simp [e])
        simp at this
      have hd2 : 49 ≤ d.toNat := by
        rcases Nat.lt_or_ge 48 d.toNat with h1 | h1
        · exact h1
        · exact (h48 (UInt8.toNat_inj.1 (show d.toNat = 48 by omega))).elim
      have hn : Numeral (d :: q) := ⟨by simp, fun x hx => h.dig x (by simp only [List.mem_append]; exact .inl hx), fun e => by simp at e; exact (h48 e).elim⟩
      have hih := ih (d :: q) (by simp at hl ⊢; omega) hn
      have hv : 1 ≤ digV 0 (d :: q) := by
        have := digV_mono q (10 * 0 + (d.toNat - 48))
        rw [digV_cons]; omega
      rw [decDigits, dif_neg (by omega), show (10 * digV 0 (d :: q) + (c.toNat - 48)) / 10 = digV 0 (d :: q) by omega, hih,
        show 48 + (10 * digV 0 (d :: q) + (c.toNat - 48)) % 10 = c.toNat by omega]
      simp
/-- a number's text, read: as strconv's two functions do it -/
def numS (s : List UInt8) : Option Int := match atoiAll s with | .ok v => if itoa v = s then some v else none | _ => none
theorem atoi_itoa {v : Int} (h0 : -9223372036854775808 ≤ v) (h1 : v ≤ 9223372036854775807) : atoiAll (itoa v) = .ok v := by
  by_cases hv : v < 0
  · obtain ⟨u, rfl⟩ : ∃ u : Nat, v = -(u : Int) := ⟨v.natAbs, by omega⟩
    rw [itoa_neg u (by omega), atoiAll_minus]
    obtain ⟨a, b, c, d⟩ := dec_dig u
    unfold parseMag
    rw [if_neg c, parse_ok _ _ a (by omega), b]
    unfold signed
    simp only
    rw [if_neg (by omega)]
  · obtain ⟨u, rfl⟩ : ∃ u : Nat, v = (u : Int) := ⟨v.toNat, by omega⟩
    rw [itoa_nonneg]
    obtain ⟨a, b, c, d⟩ := dec_dig u
    obtain ⟨x, r, hx⟩ : ∃ x r, decDigits u = x :: r := List.exists_cons_of_ne_nil c
    have h2 := isDig_iff.1 (a x (by rw [hx]; exact List.mem_cons_self ..))
    rw [hx, atoiAll_plain x r (by omega) (by omega), ← hx]
    unfold parseMag
    rw [if_neg c, parse_ok _ _ a (by omega), b]
    unfold signless
    simp only
    rw [if_neg (by omega)]
theorem num_iff {s : List UInt8} {v : Int} : numS s = some v ↔ (-9223372036854775808 ≤ v ∧ v ≤ 9223372036854775807) ∧ s = itoa v := by
  constructor
  · intro h
    unfold numS at h
    split at h
    · next u hu =>
      split at h
      · next e => injection h with h; subst h; exact ⟨atoiAll_bounds hu, e.symm⟩
      · cases h
    · cases h
  · rintro ⟨⟨h0, h1⟩, rfl⟩
    unfold numS
    rw [atoi_itoa h0 h1]
    simp
/-- behind the sign -/
def magS (s : List UInt8) : List UInt8 := if s.head? = some 45 then s.drop 1 else s
def max19 : List UInt8 := [57, 50, 50, 51, 51, 55, 50, 48, 51, 54, 56, 53, 52, 55, 55, 53, 56, 48, 55]
def min20 : List UInt8 := [45, 57, 50, 50, 51, 51, 55, 50, 48, 51, 54, 56, 53, 52, 55, 55, 53, 56, 48, 56]
/-- the document's reading -/
def refNum (s : List UInt8) : Int × Bool :=
  if (magS s).length < 1 ∨ 19 < (magS s).length ∨ ((magS s).head? = some 48 ∧ 1 < s.length) then (0, false)
  else if (magS s).all isDig then
    if (magS s).length = 19 ∧ 9223372036854775807 < digV 0 (magS s) then (-9223372036854775808, decide (s = min20))
    else (if (magS s).length < s.length then -(digV 0 (magS s) : Int) else digV 0 (magS s), true)
  else (0, false)
theorem itoa_min : itoa (-9223372036854775808) = min20 := by
  have h : min20 = 45 :: [57, 50, 50, 51, 51, 55, 50, 48, 51, 54, 56, 53, 52, 55, 55, 53, 56, 48, 56] := rfl
  have e := dec_of 19 [57, 50, 50, 51, 51, 55, 50, 48, 51, 54, 56, 53, 52, 55, 55, 53, 56, 48, 56] rfl ⟨by simp, by decide, by decide⟩
  rw [show digV 0 [57, 50, 50, 51, 51, 55, 50, 48, 51, 54, 56, 53, 52, 55, 55, 53, 56, 48, 56] = 9223372036854775808 by decide +kernel] at e
  rw [h, ← e]
  exact itoa_neg 9223372036854775808 (by decide)
theorem dec_len_le {u : Nat} (h : u ≤ 9223372036854775808) : (decDigits u).length ≤ 19 := by
  rw [decDigits_length]
  by_cases h1 : nDigits u ≤ 19
  · exact h1
  · exfalso
    obtain ⟨a, b, c, d⟩ := dec_dig u
    have hl := decDigits_length u
    have hlow : ∀ (l : List UInt8), Numeral l → 2 ≤ l.length → 10 ^ (l.length - 1) ≤ digV 0 l := by
      intro l hn h2
      obtain ⟨x, r, rfl⟩ : ∃ x r, l = x :: r := List.exists_cons_of_ne_nil hn.ne
      have hx := isDig_iff.1 (hn.dig x (List.mem_cons_self ..))
      have hx2 : x ≠ 48 := fun e => by have := hn.lead (by simp [e]); omega
      have hx3 : 49 ≤ x.toNat := by
        rcases Nat.lt_or_ge 48 x.toNat with h3 | h3
        · exact h3
        · exact (hx2 (UInt8.toNat_inj.1 (show x.toNat = 48 by omega))).elim
      have := digV_ge r (10 * 0 + (x.toNat - 48))
      rw [digV_cons, List.length_cons, Nat.add_sub_cancel]
      refine Nat.le_trans ?_ this
      calc 10 ^ r.length = 1 * 10 ^ r.length := (Nat.one_mul _).symm
        _ ≤ _ := Nat.mul_le_mul_right _ (by omega)
    have := hlow _ (dec_numeral u) (by omega)
    rw [b, hl] at this
    have h3 : 10 ^ 19 ≤ 10 ^ (nDigits u - 1) := Nat.pow_le_pow_right (by decide) (by omega)
    omega
theorem itoa_len {v : Int} (h0 : -9223372036854775808 ≤ v) (h1 : v ≤ 9223372036854775807) : (itoa v).length ≤ 20 := by
  by_cases hv : v < 0
  · obtain ⟨u, rfl⟩ : ∃ u : Nat, v = -(u : Int) := ⟨v.natAbs, by omega⟩
    have := dec_len_le (u := u) (by omega)
    rw [itoa_neg u (by omega), List.length_cons]; omega
  · obtain ⟨u, rfl⟩ : ∃ u : Nat, v = (u : Int) := ⟨v.toNat, by omega⟩
    have := dec_len_le (u := u) (by omega)
    rw [itoa_nonneg]; omega
theorem refNum_ok {s : List UInt8} {v : Int} (h : numS s = some v) : refNum s = (v, true) := by
  obtain ⟨⟨h0, h1⟩, rfl⟩ := num_iff.1 h
  by_cases hv : v < 0
  · obtain ⟨u, rfl⟩ : ∃ u : Nat, v = -(u : Int) := ⟨v.natAbs, by omega⟩
    obtain ⟨a, b, c, d⟩ := dec_dig u
    have hm : magS (itoa (-(u : Int))) = decDigits u := by rw [itoa_neg u (by omega)]; rfl
    have hl : (itoa (-(u : Int))).length = (decDigits u).length + 1 := by rw [itoa_neg u (by omega)]; rfl
    have h19 := dec_len_le (u := u) (by omega)
    have h1 : 1 ≤ (decDigits u).length := by
      rcases Nat.eq_zero_or_pos (decDigits u).length with e | e
      · exact (c (List.length_eq_zero_iff.1 e)).elim
      · exact e
    unfold refNum
    rw [hm, b, hl, if_neg (fun h => by rcases h with h | h | ⟨h, _⟩ <;> first | omega | (have := d h; omega)), if_pos (List.all_eq_true.2 a)]
    by_cases hx : 9223372036854775807 < u
    · obtain rfl : u = 9223372036854775808 := by omega
      have e := itoa_min
      have e2 : (decDigits 9223372036854775808).length = 19 := by
        have h3 := congrArg List.length e
        have h4 : (itoa (-9223372036854775808)).length = (decDigits 9223372036854775808).length + 1 := by
          rw [show (-9223372036854775808 : Int) = -((9223372036854775808 : Nat) : Int) by rfl, itoa_neg _ (by decide)]; rfl
        rw [h4] at h3
        have : min20.length = 20 := rfl
        omega
      rw [if_pos ⟨e2, hx⟩]
      have : itoa (-((9223372036854775808 : Nat) : Int)) = min20 := e
      rw [this]; rfl
    · rw [if_neg (by omega), if_pos (by omega)]
  · obtain ⟨u, rfl⟩ : ∃ u : Nat, v = (u : Int) := ⟨v.toNat, by omega⟩
    obtain ⟨a, b, c, d⟩ := dec_dig u
    have hm : magS (itoa (u : Int)) = decDigits u := by
      rw [itoa_nonneg]; unfold magS
      obtain ⟨x, r, hx⟩ : ∃ x r, decDigits u = x :: r := List.exists_cons_of_ne_nil c
      have h2 := isDig_iff.1 (a x (by rw [hx]; exact List.mem_cons_self ..))
      rw [if_neg]
      rw [hx]
      intro e
      have e2 : x = 45 := by simpa using e
      rw [e2] at h2
      have : (45 : UInt8).toNat = 45 := rfl
      omega
    have hl : (itoa (u : Int)).length = (decDigits u).length := by rw [itoa_nonneg]
    have h19 := dec_len_le (u := u) (by omega)
    have h1 : 1 ≤ (decDigits u).length := by
      rcases Nat.eq_zero_or_pos (decDigits u).length with e | e
      · exact (c (List.length_eq_zero_iff.1 e)).elim
      · exact e
    unfold refNum
    have hz : ¬ ((decDigits u).head? = some 48 ∧ 1 < (decDigits u).length) := fun ⟨h, h2⟩ => by have := (dec_numeral u).lead h; omega
    rw [hm, b, hl, if_neg (fun h => by rcases h with h | h | h <;> first | omega | exact hz h), if_pos (List.all_eq_true.2 a), if_neg (by omega), if_neg (by omega)]
theorem num_of_ref {s : List UInt8} (h : (refNum s).2 = true) : numS s = some (refNum s).1 := by
  unfold refNum at h ⊢
  split at h
  · cases h
  next hc =>
  rw [if_neg hc]
  split at h
  case isFalse => cases h
  next ha =>
  rw [if_pos ha]
  have ha' : ∀ c ∈ magS s, isDig c = true := List.all_eq_true.1 ha
  have hlen : ¬ (magS s).length < 1 := fun e => hc (.inl e)
  have hlen2 : ¬ 19 < (magS s).length := fun e => hc (.inr (.inl e))
  have hz : ¬ ((magS s).head? = some 48 ∧ 1 < s.length) := fun e => hc (.inr (.inr e))
  have hne : magS s ≠ [] := fun e => hlen (by rw [e]; decide)
  have hle : (magS s).length ≤ s.length := by unfold magS; split <;> simp
  have hN : Numeral (magS s) := ⟨hne, ha', fun e => by
    rcases Nat.lt_or_ge 1 s.length with h2 | h2
    · exact (hz ⟨e, h2⟩).elim
    · omega⟩
  have hD := dec_of _ _ rfl hN
  have hlt := digV_lt (magS s) 0 ha'
  split at h
  next hx =>
    rw [if_pos hx]
    have hs : s = min20 := by simpa using h
    refine num_iff.2 ⟨⟨by omega, by omega⟩, ?_⟩
    rw [itoa_min]; exact hs
  next hx =>
    rw [if_neg hx]
    have hup : digV 0 (magS s) ≤ 9223372036854775807 := by
      rcases Nat.lt_or_ge (magS s).length 19 with h3 | h3
      · have h4 : 10 ^ (magS s).length ≤ 10 ^ 18 := Nat.pow_le_pow_right (by decide) (by omega)
        have h5 : (0 + 1) * 10 ^ (magS s).length = 10 ^ (magS s).length := by rw [Nat.zero_add, Nat.one_mul]
        omega
      · rcases Nat.lt_or_ge 9223372036854775807 (digV 0 (magS s)) with h4 | h4
        · exact (hx ⟨by omega, h4⟩).elim
        · exact h4
    show numS s = some (if (magS s).length < s.length then -(digV 0 (magS s) : Int) else digV 0 (magS s))
    by_cases hm : s.head? = some 45
    · obtain ⟨c, r, rfl⟩ : ∃ c r, s = c :: r := by
        cases s with
        | nil => cases hm
        | cons c r => exact ⟨c, r, rfl⟩
      obtain rfl : c = 45 := by simpa using hm
      have em : magS (45 :: r) = r := rfl
      clear hN ha' ha h hc hne
      rw [em] at hlen hlen2 hz hle hD hlt hx hup ⊢
      rw [if_pos (by simp)]
      refine num_iff.2 ⟨⟨by omega, by omega⟩, ?_⟩
      have h0 : 1 ≤ digV 0 r := by
        rcases Nat.eq_zero_or_pos (digV 0 r) with e | e
        · exfalso
          rw [e, decDigits_one (by decide)] at hD
          refine hz ⟨by rw [← hD]; rfl, ?_⟩
          rw [← hD]; decide
        · exact e
      rw [itoa_neg _ h0, hD]
    · have em : magS s = s := by unfold magS; rw [if_neg hm]
      rw [em] at hlen hlen2 hz hle hD hlt hx hup ⊢
      rw [if_neg (by omega)]
      refine num_iff.2 ⟨⟨by omega, by omega⟩, ?_⟩
      rw [itoa_nonneg, hD]
theorem ref_fine (s : List UInt8) : (refNum s).2 = (numS s).isSome := by
  cases h : (refNum s).2 with
  | true => rw [num_of_ref h]; rfl
  | false =>
    cases h2 : numS s with
    | none => rfl
    | some v => rw [refNum_ok h2] at h; cases h
end Go.Proofs.YtjkggijkccbcpaaDoor
namespace Go.Proofs.YtjkggijkccbcpaaDoor
open Go.RowKit

def lineP (p : Pr) : List UInt8 := Lib.itoa p.1.size ++ 58 :: (p.1.data.toList ++ 32 :: (Lib.itoa p.2 ++ [10]))
def textP (l : List Pr) : List UInt8 := l.flatMap lineP
/-- a key, and what is behind the blank behind it -/
def headP (s : List UInt8) : Option (List UInt8 × List UInt8) :=
  match numS (cutAt 58 s).1 with
  | none => none
  | some n => if (cutAt 58 s).2.2 = true ∧ 0 ≤ n ∧ n < (cutAt 58 s).2.1.length ∧ (cutAt 58 s).2.1[n.toNat]? = some 32 then some ((cutAt 58 s).2.1.take n.toNat, (cutAt 58 s).2.1.drop (n.toNat + 1)) else none
def valP (r : List UInt8) : Option (Int × List UInt8) :=
  match numS (cutAt 10 r).1 with
  | none => none
  | some v => if (cutAt 10 r).2.2 = true then some (v, (cutAt 10 r).2.1) else none
def oneP (s : List UInt8) : Option (Pr × List UInt8) :=
  match headP s with
  | none => none
  | some (k, r) => match valP r with
    | none => none
    | some (v, m) => some ((tx k, v), m)
theorem cutAt_len (c : UInt8) (s : List UInt8) : (cutAt c s).1.length + (cutAt c s).2.1.length ≤ s.length ∧ ((cutAt c s).2.2 = true → (cutAt c s).1.length + (cutAt c s).2.1.length + 1 = s.length) := by
  rcases first_of c s with h | ⟨A, B, rfl, h⟩
  · rw [cutAt_no h]; simp
  · rw [cutAt_yes h]; simp; omega
theorem headP_some {s k r : List UInt8} (h : headP s = some (k, r)) : k.length + r.length + 1 < s.length := by
  unfold headP at h
  split at h
  · cases h
  · next n hn =>
    split at h
    · next hc =>
      obtain ⟨h1, h2, h3, _⟩ := hc
      injection h with h
      injection h with ha hb
      have := (cutAt_len 58 s).2 h1
      rw [← ha, ← hb, List.length_take, List.length_drop]
      omega
    · cases h
theorem valP_some {r m : List UInt8} {v : Int} (h : valP r = some (v, m)) : m.length < r.length ∧ -9223372036854775808 ≤ v ∧ v ≤ 9223372036854775807 := by
  unfold valP at h
  split at h
  · cases h
  · next u hu =>
    split at h
    · next hc =>
      injection h with h
      injection h with ha hb
      have := (cutAt_len 10 r).2 hc
      have h3 := (num_iff.1 hu).1
      rw [← hb, ← ha]
      exact ⟨by omega, h3⟩
    · cases h
theorem oneP_some {s m : List UInt8} {p : Pr} (h : oneP s = some (p, m)) : m.length + p.1.size + 2 < s.length ∧ -9223372036854775808 ≤ p.2 ∧ p.2 ≤ 9223372036854775807 := by
  unfold oneP at h
  split at h
  · cases h
  · next k r hk =>
    split at h
    · cases h
    · next v m' hv =>
      injection h with h
      injection h with ha hb
      have h1 := headP_some hk
      have h2 := valP_some hv
      rw [← ha, ← hb, tx_size]
      exact ⟨by omega, h2.2⟩
def parseF : Nat → List UInt8 → Option (List Pr)
  | 0, s => if s = [] then some [] else none
  | n + 1, s => if s = [] then some [] else match oneP s with
    | none => none
    | some (p, m) => (parseF n m).map (p :: ·)
theorem parseF_more : ∀ (n m : Nat) (s : List UInt8), s.length ≤ n → s.length ≤ m → parseF n s = parseF m s
  | 0, 0, s, _, _ => rfl
  | 0, m + 1, s, h, _ => by
    obtain rfl : s = [] := List.length_eq_zero_iff.1 (by omega)
    simp [parseF]
  | n + 1, 0, s, _, h => by
    obtain rfl : s = [] := List.length_eq_zero_iff.1 (by omega)
    simp [parseF]
  | n + 1, m + 1, s, h, h2 => by
    simp only [parseF]
    by_cases hs : s = []
    · rw [if_pos hs, if_pos hs]
    · rw [if_neg hs, if_neg hs]
      cases ho : oneP s with
      | none => rfl
      | some pm =>
        obtain ⟨p, r⟩ := pm
        have := (oneP_some ho).1
        simp only
        rw [parseF_more n m r (by omega) (by omega)]
def parseP (s : List UInt8) : Option (List Pr) := parseF s.length s
theorem parseP_nil : parseP [] = some [] := rfl
theorem parseP_none {s : List UInt8} (hs : s ≠ []) (h : oneP s = none) : parseP s = none := by
  unfold parseP
  obtain ⟨n, hn⟩ : ∃ n, s.length = n + 1 := ⟨s.length - 1, by have := List.length_pos_iff.2 hs; omega⟩
  rw [hn]
  simp only [parseF]
  rw [if_neg hs, h]
theorem parseP_some {s m : List UInt8} {p : Pr} (h : oneP s = some (p, m)) : parseP s = (parseP m).map (p :: ·) := by
  have h1 := (oneP_some h).1
  have hs : s ≠ [] := fun e => by rw [e] at h1; simp at h1
  unfold parseP
  obtain ⟨n, hn⟩ : ∃ n, s.length = n + 1 := ⟨s.length - 1, by have := List.length_pos_iff.2 hs; omega⟩
  rw [hn]
  simp only [parseF]
  rw [if_neg hs, h]
  simp only
  rw [parseF_more n m.length m (by omega) (Nat.le_refl _)]
/-- what is read is no more than its text has signs -/
theorem parseP_le : ∀ (n : Nat) (s : List UInt8) (l : List Pr), s.length ≤ n → parseP s = some l → l.length ≤ s.length ∧ ∀ p ∈ l, p.1.size ≤ s.length ∧ -9223372036854775808 ≤ p.2 ∧ p.2 ≤ 9223372036854775807 := by
  intro n
  induction n with
  | zero =>
    intro s l hs h
    obtain rfl : s = [] := List.length_eq_zero_iff.1 (by omega)
    rw [parseP_nil] at h; injection h with h; subst h
    exact ⟨Nat.le_refl _, fun p hp => by cases hp⟩
  | succ n ih =>
    intro s l hs h
    by_cases h0 : s = []
    · subst h0
      rw [parseP_nil] at h; injection h with h; subst h
      exact ⟨Nat.le_refl _, fun p hp => by cases hp⟩
    · cases ho : oneP s with
      | none => rw [parseP_none h0 ho] at h; cases h
      | some pm =>
        obtain ⟨p, m⟩ := pm
        have h1 := oneP_some ho
        rw [parseP_some ho] at h
        cases hm : parseP m with
        | none => rw [hm] at h; cases h
        | some q =>
          rw [hm] at h
          injection h with h
          subst h
          obtain ⟨a, b⟩ := ih m q (by omega) hm
          refine ⟨by simp only [List.length_cons]; omega, fun x hx => ?_⟩
          rcases List.mem_cons.1 hx with rfl | hx
          · exact ⟨by omega, h1.2⟩
          · obtain ⟨c, d⟩ := b x hx
            exact ⟨by omega, d⟩
/-- no sign other than digits and '-' -/
theorem itoa_not {v : Int} {c : UInt8} (h45 : c ≠ 45) (hd : isDig c = false) : c ∉ Lib.itoa v := by
  intro hc
  unfold Lib.itoa at hc
  split at hc
  · rcases List.mem_cons.1 hc with rfl | hc
    · exact h45 rfl
    · have := (dec_dig v.natAbs).1 c hc
      rw [hd] at this; cases this
  · have := (dec_dig v.toNat).1 c hc
    rw [hd] at this; cases this
theorem oneP_line (p : Pr) (r : List UInt8) (hk : p.1.size ≤ 9223372036854775807) (hv : -9223372036854775808 ≤ p.2 ∧ p.2 ≤ 9223372036854775807) : oneP (lineP p ++ r) = some (p, r) := by
  obtain ⟨k, v⟩ := p
  replace hk : k.size ≤ 9223372036854775807 := hk
  replace hv : -9223372036854775808 ≤ v ∧ v ≤ 9223372036854775807 := hv
  have e1 : lineP (k, v) ++ r = Lib.itoa k.size ++ 58 :: (k.data.toList ++ 32 :: (Lib.itoa v ++ 10 :: r)) := by simp [lineP]
  have hks : k.data.toList.length = k.size := Array.length_toList
  have hh : headP (lineP (k, v) ++ r) = some (k.data.toList, Lib.itoa v ++ 10 :: r) := by
    unfold headP
    rw [e1, cutAt_yes (itoa_not (by decide) (by decide)), num_iff.2 ⟨⟨by omega, by omega⟩, rfl⟩]
    simp only
    have e2 : k.data.toList ++ 32 :: (Lib.itoa v ++ 10 :: r) = (k.data.toList ++ [32]) ++ (Lib.itoa v ++ 10 :: r) := by simp
    have e3 : (k.data.toList ++ 32 :: (Lib.itoa v ++ 10 :: r))[((k.size : Nat) : Int).toNat]? = some 32 := by
      rw [Int.toNat_natCast, List.getElem?_append_right (by omega), hks, Nat.sub_self]; rfl
    have e4 : ((k.size : Nat) : Int) < ((k.data.toList ++ 32 :: (Lib.itoa v ++ 10 :: r)).length : Int) := by
      rw [List.length_append, List.length_cons, hks]; omega
    rw [if_pos ⟨trivial, by omega, e4, e3⟩, Int.toNat_natCast]
    congr 2
    · rw [← hks, List.take_left]
    · rw [e2, List.drop_left' (by simp [hks])]
  have hvv : valP (Lib.itoa v ++ 10 :: r) = some (v, r) := by
    unfold valP
    rw [cutAt_yes (itoa_not (by decide) (by decide)), num_iff.2 ⟨hv, rfl⟩]
    rfl
  unfold oneP
  rw [hh]
  simp only
  rw [hvv]
  simp only
  rw [tx_of]
/-- what is written is read -/
theorem parse_text : ∀ (l : List Pr), (∀ p ∈ l, p.1.size ≤ 9223372036854775807 ∧ -9223372036854775808 ≤ p.2 ∧ p.2 ≤ 9223372036854775807) → parseP (textP l) = some l
  | [], _ => rfl
  | p :: l, h => by
    have hp := h p (List.mem_cons_self ..)
    have e : textP (p :: l) = lineP p ++ textP l := rfl
    rw [e, parseP_some (oneP_line p (textP l) hp.1 hp.2), parse_text l fun x hx => h x (List.mem_cons_of_mem _ hx)]
    rfl
end Go.Proofs.YtjkggijkccbcpaaDoor
