/- The text of pairs, and how it is read (no program). -/
import Derived.Test.YtkodbldfoldbjaaDoorNumLaw
import Derived.Test.YtkodbldfoldbjaaDoorTextLaw
import Derived.Test.YtkodbldfoldbjaaDoorLib
set_option linter.unusedSimpArgs false
set_option linter.unusedVariables false
namespace Go.Proofs.YtkodbldfoldbjaaDoor
open Go.RowKit

def lineP (p : Pr) : List UInt8 := Lib.itoa p.1.size ++ 58 :: (p.1.data.toList ++ 32 :: (Lib.itoa p.2 ++ [10]))
def textP (l : List Pr) : List UInt8 := l.flatMap lineP
/-- a key, and what is behind the blank behind it -/
def headP (s : List UInt8) : Option (List UInt8 × List UInt8) :=
  match numS (cutAt 58 s).1 with
  | none => none
  | some n => if (cutAt 58 s).2.2 = true ∧ 0 ≤ n ∧ n < (cutAt 58 s).2.1.length ∧ (cutAt 58 s).2.1[n.toNat]? = some 32 then some ((cutAt 58 s).2.1.take n.toNat, (cutAt 58 s).2.1.drop (n.toNat + 1)) else none
def valP (r : List UInt8) : Option (Int × List UInt8) :=
  match numS (cutAt 10 r).1 with
  | none => none
  | some v => if (cutAt 10 r).2.2 = true then some (v, (cutAt 10 r).2.1) else none
def oneP (s : List UInt8) : Option (Pr × List UInt8) :=
  match headP s with
  | none => none
  | some (k, r) => match valP r with
    | none => none
    | some (v, m) => some ((tx k, v), m)
theorem cutAt_len (c : UInt8) (s : List UInt8) : (cutAt c s).1.length + (cutAt c s).2.1.length ≤ s.length ∧ ((cutAt c s).2.2 = true → (cutAt c s).1.length + (cutAt c s).2.1.length + 1 = s.length) := by
  rcases first_of c s with h | ⟨A, B, rfl, h⟩
  · rw [cutAt_no h]; simp
  · rw [cutAt_yes h]; simp; omega
theorem headP_some {s k r : List UInt8} (h : headP s = some (k, r)) : k.length + r.length + 1 < s.length := by
  unfold headP at h
  split at h
  · cases h
  · next n hn =>
    split at h
    · next hc =>
      obtain ⟨h1, h2, h3, _⟩ := hc
      injection h with h
      injection h with ha hb
      have := (cutAt_len 58 s).2 h1
      rw [← ha, ← hb, List.length_take, List.length_drop]
      omega
    · cases h
theorem valP_some {r m : List UInt8} {v : Int} (h : valP r = some (v, m)) : m.length < r.length ∧ -9223372036854775808 ≤ v ∧ v ≤ 9223372036854775807 := by
  unfold valP at h
  split at h
  · cases h
  · next u hu =>
    split at h
    · next hc =>
      injection h with h
      injection h with ha hb
      have := (cutAt_len 10 r).2 hc
      have h3 := (num_iff.1 hu).1
      rw [← hb, ← ha]
      exact ⟨by omega, h3⟩
    · cases h
theorem oneP_some {s m : List UInt8} {p : Pr} (h : oneP s = some (p, m)) : m.length + p.1.size + 2 < s.length ∧ -9223372036854775808 ≤ p.2 ∧ p.2 ≤ 9223372036854775807 := by
  unfold oneP at h
  split at h
  · cases h
  · next k r hk =>
    split at h
    · cases h
    · next v m' hv =>
      injection h with h
      injection h with ha hb
      have h1 := headP_some hk
      have h2 := valP_some hv
      rw [← ha, ← hb, tx_size]
      exact ⟨by omega, h2.2⟩
def parseF : Nat → List UInt8 → Option (List Pr)
  | 0, s => if s = [] then some [] else none
  | n + 1, s => if s = [] then some [] else match oneP s with
    | none => none
    | some (p, m) => (parseF n m).map (p :: ·)
theorem parseF_more : ∀ (n m : Nat) (s : List UInt8), s.length ≤ n → s.length ≤ m → parseF n s = parseF m s
  | 0, 0, s, _, _ => rfl
  | 0, m + 1, s, h, _ => by
    obtain rfl : s = [] := List.length_eq_zero_iff.1 (by omega)
    simp [parseF]
  | n + 1, 0, s, _, h => by
    obtain rfl : s = [] := List.length_eq_zero_iff.1 (by omega)
    simp [parseF]
  | n + 1, m + 1, s, h, h2 => by
    simp only [parseF]
    by_cases hs : s = []
    · rw [if_pos hs, if_pos hs]
    · rw [if_neg hs, if_neg hs]
      cases ho : oneP s with
      | none => rfl
      | some pm =>
        obtain ⟨p, r⟩ := pm
        have := (oneP_some ho).1
        simp only
        rw [parseF_more n m r (by omega) (by omega)]
def parseP (s : List UInt8) : Option (List Pr) := parseF s.length s
theorem parseP_nil : parseP [] = some [] := rfl
theorem parseP_none {s : List UInt8} (hs : s ≠ []) (h : oneP s = none) : parseP s = none := by
  unfold parseP
  obtain ⟨n, hn⟩ : ∃ n, s.length = n + 1 := ⟨s.length - 1, by have := List.length_pos_iff.2 hs; omega⟩
  rw [hn]
  simp only [parseF]
  rw [if_neg hs, h]
theorem parseP_some {s m : List UInt8} {p : Pr} (h : oneP s = some (p, m)) : parseP s = (parseP m).map (p :: ·) := by
  have h1 := (oneP_some h).1
  have hs : s ≠ [] := fun e => by rw [e] at h1; simp at h1
  unfold parseP
  obtain ⟨n, hn⟩ : ∃ n, s.length = n + 1 := ⟨s.length - 1, by have := List.length_pos_iff.2 hs; omega⟩
  rw [hn]
  simp only [parseF]
  rw [if_neg hs, h]
  simp only
  rw [parseF_more n m.length m (by omega) (Nat.le_refl _)]
/-- what is read is no more than its text has signs -/
theorem parseP_le : ∀ (n : Nat) (s : List UInt8) (l : List Pr), s.length ≤ n → parseP s = some l → l.length ≤ s.length ∧ ∀ p ∈ l, p.1.size ≤ s.length ∧ -9223372036854775808 ≤ p.2 ∧ p.2 ≤ 9223372036854775807 := by
  intro n
  induction n with
  | zero =>
    intro s l hs h
    obtain rfl : s = [] := List.length_eq_zero_iff.1 (by omega)
    rw [parseP_nil] at h; injection h with h; subst h
    exact ⟨Nat.le_refl _, fun p hp => by cases hp⟩
  | succ n ih =>
    intro s l hs h
    by_cases h0 : s = []
    · subst h0
      rw [parseP_nil] at h; injection h with h; subst h
      exact ⟨Nat.le_refl _, fun p hp => by cases hp⟩
    · cases ho : oneP s with
      | none => rw [parseP_none h0 ho] at h; cases h
      | some pm =>
        obtain ⟨p, m⟩ := pm
        have h1 := oneP_some ho
        rw [parseP_some ho] at h
        cases hm : parseP m with
        | none => rw [hm] at h; cases h
        | some q =>
          rw [hm] at h
          injection h with h
          subst h
          obtain ⟨a, b⟩ := ih m q (by omega) hm
          refine ⟨by simp only [List.length_cons]; omega, fun x hx => ?_⟩
          rcases List.mem_cons.1 hx with rfl | hx
          · exact ⟨by omega, h1.2⟩
          · obtain ⟨c, d⟩ := b x hx
            exact ⟨by omega, d⟩
/-- no sign other than digits and '-' -/
theorem itoa_not {v : Int} {c : UInt8} (h45 : c ≠ 45) (hd : isDig c = false) : c ∉ Lib.itoa v := by
  intro hc
  unfold Lib.itoa at hc
  split at hc
  · rcases List.mem_cons.1 hc with rfl | hc
    · exact h45 rfl
    · have := (dec_dig v.natAbs).1 c hc
      rw [hd] at this; cases this
  · have := (dec_dig v.toNat).1 c hc
    rw [hd] at this; cases this
theorem oneP_line (p : Pr) (r : List UInt8) (hk : p.1.size ≤ 9223372036854775807) (hv : -9223372036854775808 ≤ p.2 ∧ p.2 ≤ 9223372036854775807) : oneP (lineP p ++ r) = some (p, r) := by
  obtain ⟨k, v⟩ := p
  replace hk : k.size ≤ 9223372036854775807 := hk
  replace hv : -9223372036854775808 ≤ v ∧ v ≤ 9223372036854775807 := hv
  have e1 : lineP (k, v) ++ r = Lib.itoa k.size ++ 58 :: (k.data.toList ++ 32 :: (Lib.itoa v ++ 10 :: r)) := by simp [lineP]
  have hks : k.data.toList.length = k.size := Array.length_toList
  have hh : headP (lineP (k, v) ++ r) = some (k.data.toList, Lib.itoa v ++ 10 :: r) := by
    unfold headP
    rw [e1, cutAt_yes (itoa_not (by decide) (by decide)), num_iff.2 ⟨⟨by omega, by omega⟩, rfl⟩]
    simp only
    have e2 : k.data.toList ++ 32 :: (Lib.itoa v ++ 10 :: r) = (k.data.toList ++ [32]) ++ (Lib.itoa v ++ 10 :: r) := by simp
    have e3 : (k.data.toList ++ 32 :: (Lib.itoa v ++ 10 :: r))[((k.size : Nat) : Int).toNat]? = some 32 := by
      rw [Int.toNat_natCast, List.getElem?_append_right (by omega), hks, Nat.sub_self]; rfl
    have e4 : ((k.size : Nat) : Int) < ((k.data.toList ++ 32 :: (Lib.itoa v ++ 10 :: r)).length : Int) := by
      rw [List.length_append, List.length_cons, hks]; omega
    rw [if_pos ⟨trivial, by omega, e4, e3⟩, Int.toNat_natCast]
    congr 2
    · rw [← hks, List.take_left]
    · rw [e2, List.drop_left' (by simp [hks])]
  have hvv : valP (Lib.itoa v ++ 10 :: r) = some (v, r) := by
    unfold valP
    rw [cutAt_yes (itoa_not (by decide) (by decide)), num_iff.2 ⟨hv, rfl⟩]
    rfl
  unfold oneP
  rw [hh]
  simp only
  rw [hvv]
  simp only
  rw [tx_of]
/-- what is written is read -/
theorem parse_text : ∀ (l : List Pr), (∀ p ∈ l, p.1.size ≤ 9223372036854775807 ∧ -9223372036854775808 ≤ p.2 ∧ p.2 ≤ 9223372036854775807) → parseP (textP l) = some l
  | [], _ => rfl
  | p :: l, h => by
    have hp := h p (List.mem_cons_self ..)
    have e : textP (p :: l) = lineP p ++ textP l := rfl
    rw [e, parseP_some (oneP_line p (textP l) hp.1 hp.2), parse_text l fun x hx => h x (List.mem_cons_of_mem _ hx)]
    rfl
end Go.Proofs.YtkodbldfoldbjaaDoor
