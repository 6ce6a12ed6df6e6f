/- Pairs: their text: the document's, the program's. -/
import Derived.Test.YtjkggijkccbcpaaDoorStd
import Derived.Test.YtjkggijkccbcpaaDoorWords
import Derived.Test.YtjkggijkccbcpaaDoorPairSum
import Derived.Test.YtjkggijkccbcpaaDoorApp2
import Derived.Lib.QuietBelow
import Derived.Deep.RegionHeld3
set_option linter.unusedSimpArgs false
set_option linter.unusedVariables false
/- The text of pairs, and how it is read (no program). -/
namespace Go.Proofs.YtjkggijkccbcpaaDoor
open Go.RowKit

def lineP (p : Pr) : List UInt8 := Lib.itoa p.1.size ++ 58 :: (p.1.data.toList ++ 32 :: (Lib.itoa p.2 ++ [10]))
def textP (l : List Pr) : List UInt8 := l.flatMap lineP
/-- a key, and what is behind the blank behind it -/
def headP (s : List UInt8) : Option (List UInt8 × List UInt8) :=
  match numS (cutAt 58 s).1 with
  | none => none
  | some n => if (cutAt 58 s).2.2 = true ∧ 0 ≤ n ∧ n < (cutAt 58 s).2.1.length ∧ (cutAt 58 s).2.1[n.toNat]? = some 32 then some ((cutAt 58 s).2.1.take n.toNat, (cutAt 58 s).2.1.drop (n.toNat + 1)) else none
def valP (r : List UInt8) : Option (Int × List UInt8) :=
  match numS (cutAt 10 r).1 with
  | none => none
  | some v => if (cutAt 10 r).2.2 = true then some (v, (cutAt 10 r).2.1) else none
def oneP (s : List UInt8) : Option (Pr × List UInt8) :=
  match headP s with
  | none => none
  | some (k, r) => match valP r with
    | none => none
    | some (v, m) => some ((tx k, v), m)
theorem cutAt_len (c : UInt8) (s : List UInt8) : (cutAt c s).1.length + (cutAt c s).2.1.length ≤ s.length ∧ ((cutAt c s).2.2 = true → (cutAt c s).1.length + (cutAt c s).2.1.length + 1 = s.length) := by
  rcases first_of c s with h | ⟨A, B, rfl, h⟩
  · rw [cutAt_no h]; simp
  · rw [cutAt_yes h]; simp; omega
theorem headP_some {s k r : List UInt8} (h : headP s = some (k, r)) : k.length + r.length + 1 < s.length := by
  unfold headP at h
  split at h
  · cases h
  · next n hn =>
    split at h
    · next hc =>
      obtain ⟨h1, h2, h3, _⟩ := hc
      injection h with h
      injection h with ha hb
      have := (cutAt_len 58 s).2 h1
      rw [← ha, ← hb, List.length_take, List.length_drop]
      omega
    · cases h
theorem valP_some {r m : List UInt8} {v : Int} (h : valP r = some (v, m)) : m.length < r.length ∧ -9223372036854775808 ≤ v ∧ v ≤ 9223372036854775807 := by
  unfold valP at h
  split at h
  · cases h
  · next u hu =>
    split at h
    · next hc =>
      injection h with h
      injection h with ha hb
      have := (cutAt_len 10 r).2 hc
      have h3 := (num_iff.1 hu).1
      rw [← hb, ← ha]
      exact ⟨by omega, h3⟩
    · cases h
theorem oneP_some {s m : List UInt8} {p : Pr} (h : oneP s = some (p, m)) : m.length + p.1.size + 2 < s.length ∧ -9223372036854775808 ≤ p.2 ∧ p.2 ≤ 9223372036854775807 := by
  unfold oneP at h
  split at h
  · cases h
  · next k r hk =>
    split at h
    · cases h
    · next v m' hv =>
      injection h with h
      injection h with ha hb
      have h1 := headP_some hk
      have h2 := valP_some hv
      rw [← ha, ← hb, tx_size]
      exact ⟨by omega, h2.2⟩
def parseF : Nat → List UInt8 → Option (List Pr)
  | 0, s => if s = [] then some [] else none
  | n + 1, s => if s = [] then some [] else match oneP s with
    | none => none
    | some (p, m) => (parseF n m).map (p :: ·)
theorem parseF_more : ∀ (n m : Nat) (s : List UInt8), s.length ≤ n → s.length ≤ m → parseF n s = parseF m s
  | 0, 0, s, _, _ => rfl
  | 0, m + 1, s, h, _ => by
    obtain rfl : s = [] := List.length_eq_zero_iff.1 (by omega)
    simp [parseF]
  | n + 1, 0, s, _, h => by
    obtain rfl : s = [] := List.length_eq_zero_iff.1 (by omega)
    simp [parseF]
  | n + 1, m + 1, s, h, h2 => by
    simp only [parseF]
    by_cases hs : s = []
    · rw [if_pos hs, if_pos hs]
    · rw [if_neg hs, if_neg hs]
      cases ho : oneP s with
      | none => rfl
      | some pm =>
        obtain ⟨p, r⟩ := pm
        have := (oneP_some ho).1
        simp only
        rw [parseF_more n m r (by omega) (by omega)]
def parseP (s : List UInt8) : Option (List Pr) := parseF s.length s
theorem parseP_nil : parseP [] = some [] := rfl
theorem parseP_none {s : List UInt8} (hs : s ≠ []) (h : oneP s = none) : parseP s = none := by
  unfold parseP
  obtain ⟨n, hn⟩ : ∃ n, s.length = n + 1 := ⟨s.length - 1, by have := List.length_pos_iff.2 hs; omega⟩
  rw [hn]
  simp only [parseF]
  rw [if_neg hs, h]
theorem parseP_some {s m : List UInt8} {p : Pr} (h : oneP s = some (p, m)) : parseP s = (parseP m).map (p :: ·) := by
  have h1 := (oneP_some h).1
  have hs : s ≠ [] := fun e => by rw [e] at h1; simp at h1
  unfold parseP
  obtain ⟨n, hn⟩ : ∃ n, s.length = n + 1 := ⟨s.length - 1, by have := List.length_pos_iff.2 hs; omega⟩
  rw [hn]
  simp only [parseF]
  rw [if_neg hs, h]
  simp only
  rw [parseF_more n m.length m (by omega) (Nat.le_refl _)]
/-- what is read is no more than its text has signs -/
theorem parseP_le : ∀ (n : Nat) (s : List UInt8) (l : List Pr), s.length ≤ n → parseP s = some l → l.length ≤ s.length ∧ ∀ p ∈ l, p.1.size ≤ s.length ∧ -9223372036854775808 ≤ p.2 ∧ p.2 ≤ 9223372036854775807 := by
  intro n
  induction n with
  | zero =>
    intro s l hs h
    obtain rfl : s = [] := List.length_eq_zero_iff.1 (by omega)
    rw [parseP_nil] at h; injection h with h; subst h
    exact ⟨Nat.le_refl _, fun p hp => by cases hp⟩
  | succ n ih =>
    intro s l hs h
    by_cases h0 : s = []
    · subst h0
      rw [parseP_nil] at h; injection h with h; subst h
      exact ⟨Nat.le_refl _, fun p hp => by cases hp⟩
    · cases ho : oneP s with
      | none => rw [parseP_none h0 ho] at h; cases h
      | some pm =>
        obtain ⟨p, m⟩ := pm
        have h1 := oneP_some ho
        rw [parseP_some ho] at h
        cases hm : parseP m with
        | none => rw [hm] at h; cases h
        | some q =>
          rw [hm] at h
          injection h with h
          subst h
          obtain ⟨a, b⟩ := ih m q (by omega) hm
          refine ⟨by simp only [List.length_cons]; omega, fun x hx => ?_⟩
          rcases List.mem_cons.1 hx with rfl | hx
          · exact ⟨by omega, h1.2⟩
          · obtain ⟨c, d⟩ := b x hx
            exact ⟨by omega, d⟩
/-- no sign other than digits and '-' -/
theorem itoa_not {v : Int} {c : UInt8} (h45 : c ≠ 45) (hd : isDig c = false) : c ∉ Lib.itoa v := by
  intro hc
  unfold Lib.itoa at hc
  split at hc
  · rcases List.mem_cons.1 hc with rfl | hc
    · exact h45 rfl
    · have := (dec_dig v.natAbs).1 c hc
      rw [hd] at this; cases this
  · have := (dec_dig v.toNat).1 c hc
    rw [hd] at this; cases this
theorem oneP_line (p : Pr) (r : List UInt8) (hk : p.1.size ≤ 9223372036854775807) (hv : -9223372036854775808 ≤ p.2 ∧ p.2 ≤ 9223372036854775807) : oneP (lineP p ++ r) = some (p, r) := by
  obtain ⟨k, v⟩ := p
  replace hk : k.size ≤ 9223372036854775807 := hk
  replace hv : -9223372036854775808 ≤ v ∧ v ≤ 9223372036854775807 := hv
  have e1 : lineP (k, v) ++ r = Lib.itoa k.size ++ 58 :: (k.data.toList ++ 32 :: (Lib.itoa v ++ 10 :: r)) := by simp [lineP]
  have hks : k.data.toList.length = k.size := Array.length_toList
  have hh : headP (lineP (k, v) ++ r) = some (k.data.toList, Lib.itoa v ++ 10 :: r) := by
    unfold headP
    rw [e1, cutAt_yes (itoa_not (by decide) (by decide)), num_iff.2 ⟨⟨by omega, by omega⟩, rfl⟩]
    simp only
    have e2 : k.data.toList ++ 32 :: (Lib.itoa v ++ 10 :: r) = (k.data.toList ++ [32]) ++ (Lib.itoa v ++ 10 :: r) := by simp
    have e3 : (k.data.toList ++ 32 :: (Lib.itoa v ++ 10 :: r))[((k.size : Nat) : Int).toNat]? = some 32 := by
      rw [Int.toNat_natCast, List.getElem?_append_right (by omega), hks, Nat.sub_self]; rfl
    have e4 : ((k.size : Nat) : Int) < ((k.data.toList ++ 32 :: (Lib.itoa v ++ 10 :: r)).length : Int) := by
      rw [List.length_append, List.length_cons, hks]; omega
    rw [if_pos ⟨trivial, by omega, e4, e3⟩, Int.toNat_natCast]
    congr 2
    · rw [← hks, List.take_left]
    · rw [e2, List.drop_left' (by simp [hks])]
  have hvv : valP (Lib.itoa v ++ 10 :: r) = some (v, r) := by
    unfold valP
    rw [cutAt_yes (itoa_not (by decide) (by decide)), num_iff.2 ⟨hv, rfl⟩]
    rfl
  unfold oneP
  rw [hh]
  simp only
  rw [hvv]
  simp only
  rw [tx_of]
/-- what is written is read -/
theorem parse_text : ∀ (l : List Pr), (∀ p ∈ l, p.1.size ≤ 9223372036854775807 ∧ -9223372036854775808 ≤ p.2 ∧ p.2 ≤ 9223372036854775807) → parseP (textP l) = some l
  | [], _ => rfl
  | p :: l, h => by
    have hp := h p (List.mem_cons_self ..)
    have e : textP (p :: l) = lineP p ++ textP l := rfl
    rw [e, parseP_some (oneP_line p (textP l) hp.1 hp.2), parse_text l fun x hx => h x (List.mem_cons_of_mem _ hx)]
    rfl
end Go.Proofs.YtjkggijkccbcpaaDoor
/- Pairs: Check, KeySum, SliceOf, number; what the readers' steps say (plain). -/
namespace Go.Proofs.YtjkggijkccbcpaaDoor
open Go.RowKit

def numOk (l : List UInt8) : Bool := (numS l).isSome
theorem numOk_eq (l : List UInt8) : numOk l = (atoiOk l && decide (Lib.itoa (atoiV l) = l)) := by
  unfold numOk numS atoiOk atoiV
  cases h : Lib.atoiAll l
  · simp only [Bool.true_and]
    split <;> rename_i h2
    · rw [decide_eq_true h2]; rfl
    · rw [decide_eq_false h2]; rfl
  · rfl
  · rfl
theorem numOk_val {l : List UInt8} (h : numOk l = true) : numS l = some (atoiV l) := by
  have h2 := h
  rw [numOk_eq] at h2
  simp only [Bool.and_eq_true, decide_eq_true_eq] at h2
  unfold numOk at h
  obtain ⟨v, hv⟩ := Option.isSome_iff_exists.1 h
  rw [hv]
  unfold numS at hv
  unfold atoiV
  revert hv
  cases Lib.atoiAll l
  · intro hv
    simp only at hv ⊢
    split at hv
    · exact hv.symm
    · cases hv
  · intro hv; cases hv
  · intro hv; cases hv
theorem numOk_ref {l : List UInt8} : (refNum l).2 = numOk l := ref_fine l
theorem numOk_refv {l : List UInt8} (h : numOk l = true) : (refNum l).1 = atoiV l := by
  have := refNum_ok (numOk_val h)
  rw [this]
theorem atoiV_bd {l : List UInt8} : -9223372036854775808 ≤ atoiV l ∧ atoiV l ≤ 9223372036854775807 := by
  unfold atoiV
  cases h : Lib.atoiAll l
  · exact Lib.atoiAll_bounds h
  · exact ⟨show (-9223372036854775808 : Int) ≤ 0 by decide, show (0 : Int) ≤ 9223372036854775807 by decide⟩
  · exact Lib.atoiSat_bounds l
theorem numOk_bd {l : List UInt8} (h : numOk l = true) : -9223372036854775808 ≤ atoiV l ∧ atoiV l ≤ 9223372036854775807 := atoiV_bd
end Go.Proofs.YtjkggijkccbcpaaDoor
/- Pairs: the document's sum of a key, its numerals. -/
namespace Go.Proofs.YtjkggijkccbcpaaDoor
open Go.RowKit

theorem xor_same {h : Int} {c : UInt8} (h0 : 0 ≤ h) (h1 : h < 4294967296) : bits BinOp.xor IntKind.i64 h (c.toNat : Int) = bits BinOp.xor IntKind.u32 h ((c.toNat : Int) % 4294967296) ∧ 0 ≤ bits BinOp.xor IntKind.i64 h (c.toNat : Int) ∧ bits BinOp.xor IntKind.i64 h (c.toNat : Int) < 4294967296 := by
  obtain ⟨n, rfl⟩ : ∃ n : Nat, h = n := ⟨h.toNat, by omega⟩
  have hc : c.toNat < 256 := c.toNat_lt
  have hn : n < 2 ^ 32 := by omega
  have hx : n ^^^ c.toNat < 2 ^ 32 := Nat.xor_lt_two_pow hn (by omega)
  have e64 : bits BinOp.xor IntKind.i64 (n : Int) (c.toNat : Int) = ((n ^^^ c.toNat : Nat) : Int) := by
    have key : (BitVec.ofInt 64 (n : Int) ^^^ BitVec.ofInt 64 (c.toNat : Int)).toNat = n ^^^ c.toNat := by
      rw [BitVec.toNat_xor, BitVec.toNat_ofInt, BitVec.toNat_ofInt]
      congr 1 <;> omega
    show IntKind.i64.wrap ((BitVec.ofInt 64 (n : Int) ^^^ BitVec.ofInt 64 (c.toNat : Int)).toNat : Nat) = _
    rw [key, IntKind.wrap_i64]
    omega
  have e32 : bits BinOp.xor IntKind.u32 (n : Int) ((c.toNat : Int) % 4294967296) = ((n ^^^ c.toNat : Nat) : Int) := by
    have key : (BitVec.ofInt 32 (n : Int) ^^^ BitVec.ofInt 32 ((c.toNat : Int) % 4294967296)).toNat = n ^^^ c.toNat := by
      rw [BitVec.toNat_xor, BitVec.toNat_ofInt, BitVec.toNat_ofInt]
      congr 1 <;> omega
    show IntKind.u32.wrap ((BitVec.ofInt 32 (n : Int) ^^^ BitVec.ofInt 32 ((c.toNat : Int) % 4294967296)).toNat : Nat) = _
    rw [key]
    exact IntWalk.u32_in _ (by omega)
  rw [e64, e32]
  exact ⟨rfl, by omega, by omega⟩
end Go.Proofs.YtjkggijkccbcpaaDoor
namespace Go.Proofs.YtjkggijkccbcpaaDoor
open Go.RowKit

theorem lineP_len (p : Pr) (h : -9223372036854775808 ≤ p.2 ∧ p.2 ≤ 9223372036854775807) (hk : p.1.size ≤ 100000) : (lineP p).length ≤ 100043 := by
  have h1 : (Lib.itoa (p.1.size : Int)).length ≤ 20 := itoa_len (by omega) (by omega)
  have h2 : (Lib.itoa p.2).length ≤ 20 := itoa_len h.1 h.2
  unfold lineP
  simp only [List.length_append, List.length_cons, List.length_nil, tl_len]
  omega
theorem textP_len : ∀ (l : List Pr), (∀ p ∈ l, p.1.size ≤ 100000 ∧ -9223372036854775808 ≤ p.2 ∧ p.2 ≤ 9223372036854775807) → (textP l).length ≤ 100043 * l.length
  | [], _ => Nat.le_refl _
  | p :: l, h => by
    have h1 := h p List.mem_cons_self
    have h2 := lineP_len p h1.2 h1.1
    have h3 := textP_len l fun x hx => h x (List.mem_cons_of_mem _ hx)
    rw [show textP (p :: l) = lineP p ++ textP l from rfl, List.length_append, List.length_cons]
    omega
theorem textP_take {l : List Pr} {k : Nat} {p : Pr} (h : l[k]? = some p) : textP (l.take (k + 1)) = textP (l.take k) ++ lineP p := by
  obtain ⟨h1, h2⟩ := List.getElem?_eq_some_iff.1 h
  rw [List.take_succ_eq_append_getElem h1, h2]
  unfold textP
  rw [List.flatMap_append]
  simp
def okP (l : List Pr) : Prop := l.length ≤ 100000 ∧ ∀ p ∈ l, p.1.size ≤ 100000 ∧ -9223372036854775808 ≤ p.2 ∧ p.2 ≤ 9223372036854775807
theorem okP.take {l : List Pr} (h : okP l) (k : Nat) : (textP (l.take k)).length ≤ 10004300000 := by
  have h1 := textP_len (l.take k) fun p hp => h.2 p (List.mem_of_mem_take hp)
  have h2 : (l.take k).length ≤ 100000 := by rw [List.length_take]; have := h.1; omega
  omega
theorem line_eq (A : List UInt8) (x : ByteArray) (y : Int) : ((((((tx A ++ tx (Lib.itoa (x.size : Int))) ++ ⟨#[58]⟩) ++ x) ++ ⟨#[32]⟩) ++ tx (Lib.itoa y)) ++ ⟨#[10]⟩ : ByteArray) = tx (A ++ lineP (x, y)) := by
  apply tl_inj
  rw [tl, tl, tx_list]
  simp [tx, ByteArray.data_append, lineP]
theorem Bd.later {w w' : World} {B b : Nat} {l : List UInt8} (h : Bd w B b l) (k : Below w.heap.size w w') : Bd w' B b l := by
  have key : ∀ {p : Value} {bs : List Value}, Lib.BuilderAt 92 5 B b p bs w → Lib.BuilderAt 92 5 B b p bs w' := by
    intro p bs hp
    have hlt := hp.lt
    obtain ⟨hB, v, hb, hown, hne⟩ := hp
    refine ⟨hB, v, by rw [k.block b hlt]; exact hb, ?_, hne⟩
    obtain ⟨hl, hh⟩ := hown
    refine ⟨hl, ?_⟩
    rcases hh with h | ⟨g, cap, cur, rfl, hbg, hg, r⟩
    · exact .inl h
    · exact .inr ⟨g, cap, cur, rfl, hbg, by rw [k.block g (Array.getElem?_eq_some_iff.1 hg).1]; exact hg, r⟩
  rcases h with h | h
  · exact .inl (key h)
  · exact .inr (key h)
theorem line_eq2 (x : ByteArray) (y : Int) : (((((tx (Lib.itoa (x.size : Int)) ++ ⟨#[58]⟩) ++ x) ++ ⟨#[32]⟩) ++ tx (Lib.itoa y)) ++ ⟨#[10]⟩ : ByteArray).data.toList = lineP (x, y) := by
  simp [tx, ByteArray.data_append, lineP]
set_option maxRecDepth 100000 in
set_option maxHeartbeats 1000000 in
theorem Text_any (ao : Option Addr) (cap : Nat) (l : List Pr) (w : World) (hg : GT w) (hok : okP l) (hs : Sl 2 encP w ao l) :
    Calls Tryd.prog 20 #[.slice ao l.length cap] w fun e w' => e = .returned (.string (tx (textP l))) ∧ Below w.heap.size w w' := by
  have HOK := hide hok
  have HG := hide hg
  have hl := hok.1
  have HBD0 := hide (bd_new w)
  have hb0 : Below w.heap.size w (w.alloc (.cells #[.pointer none, .slice none 0 0] 92)) := (Below.refl _ _).alloc (Nat.le_refl _) _
  clear hok hg
  go_enter Tryd.func20, Tryd.ntmps20
  go_wp2
  go_loopw [8] (fun i wr => ∃ k : Nat, k ≤ l.length ∧ i = .int .i64 k ∧ Hid (Bd wr w.heap.size w.heap.size (textP (l.take k))) ∧ Below w.heap.size w wr) (fun i _ => l.length - (intOf i).toNat)
  case atStart => exact ⟨0, by omega, rfl, HBD0, hb0⟩
  case round =>
    obtain ⟨k, hk, rfl, HBD, hnx⟩ := hrel
    by_cases hlt : k < l.length
    · obtain ⟨b, off, x, y, rfl, hbw, hlk, c0, c1⟩ := (hs.later hnx (Nat.le_refl _)).pair hlt
      have hxy := HOK.out.2 (x, y) (List.mem_of_getElem? hlk)
      dsimp only at hxy
      obtain ⟨hx, hy0, hy1⟩ := hxy
      have hA := HOK.out.take k
      have HT := hide ((textP_take hlk).trans rfl)
      have HE := hide (line_eq2 x y)
      have HG2 := hide (HG.out.later hnx (Nat.le_refl _))
      generalize textP (l.take k) = A at *
      have hD1 : Hid (∀ w' : World, GT w' → Calls Tryd.prog 35 #[.int .i64 (x.size : Int)] w' fun e w'' => e = .returned (.string (tx (Lib.itoa (x.size : Int)))) ∧ Below w'.heap.size w' w'') := fun w' hg => Itoa_any _ w' hg (by omega) (by omega)
      have hD2 : Hid (∀ w' : World, GT w' → Calls Tryd.prog 35 #[.int .i64 y] w' fun e w'' => e = .returned (.string (tx (Lib.itoa y))) ∧ Below w'.heap.size w' w'') := fun w' hg => Itoa_any _ w' hg hy0 hy1
      have z1 : (tx (Lib.itoa (x.size : Int))).size ≤ 20 := by rw [tx_size]; exact itoa_len (by omega) (by omega)
      have z2 : (tx (Lib.itoa y)).size ≤ 20 := by rw [tx_size]; exact itoa_len hy0 hy1
      generalize tx (Lib.itoa (x.size : Int)) = D1 at *
      generalize tx (Lib.itoa y) = D2 at *
      have hls : A.length + (((((D1 ++ ⟨#[58]⟩) ++ x) ++ ⟨#[32]⟩) ++ D2) ++ ⟨#[10]⟩ : ByteArray).size ≤ 140737488355328 := by
        have s1 : (⟨#[58]⟩ : ByteArray).size = 1 := rfl
        have s2 : (⟨#[32]⟩ : ByteArray).size = 1 := rfl
        have s3 : (⟨#[10]⟩ : ByteArray).size = 1 := rfl
        simp only [ByteArray.size_append]
        omega
      have HLS := hide hls
      have n1 : ¬ 9223372036854775807 < D1.size + 1 := by omega
      have n3 : ¬ 9223372036854775807 < D1.size + 1 + x.size := by omega
      have n4 : ¬ 9223372036854775807 < D1.size + 1 + x.size + 1 := by omega
      have n5 : ¬ 9223372036854775807 < D1.size + 1 + x.size + 1 + D2.size := by omega
      have n6 : ¬ 9223372036854775807 < D1.size + 1 + x.size + 1 + D2.size + 1 := by omega
      have f1 : (0 : Int) ≤ (k : Int) ∧ (k : Int) < (l.length : Int) ∧ (0 : Int) ≤ (x.size : Int) ∧ (x.size : Int) ≤ 100000 := by omega
      obtain ⟨f1, f2, f3, f4⟩ := f1
      clear hlk z1 z2 hA hls
      go_upto_region 5 with (fail)
      have hq0 : (wr.alloc (.cells #[.string x, .int .i64 y] 70)).heap[wr.heap.size]? = some (.cells #[.string x, .int .i64 y] 70 (0, 0)) := heap_new _ _
      have d0 : (wr.alloc (.cells #[.string x, .int .i64 y] 70)).cell? ⟨wr.heap.size, 0, none⟩ = some (.string x) := (Bk.new rfl).get (j := 0) rfl
      have d1 : (wr.alloc (.cells #[.string x, .int .i64 y] 70)).cell? ⟨wr.heap.size, 1, none⟩ = some (.int .i64 y) := (Bk.new rfl).get (j := 1) rfl
      have hbw2 : Below wr.heap.size wr (wr.alloc (.cells #[.string x, .int .i64 y] 70)) := (Below.refl _ _).alloc (Nat.le_refl _) _
      have HBD2 := hide (HBD.out.later hbw2)
      have HG3 := hide (HG2.out.later hbw2 (Nat.le_refl _))
      have hnx2 : Below w.heap.size w (wr.alloc (.cells #[.string x, .int .i64 y] 70)) := hnx.trans (hbw2.mono hnx.size)
      have hne : w.heap.size < wr.heap.size := by rcases HBD.out with h | h <;> exact h.lt
      clear hbw2 HBD HG2 HG
      generalize wr.alloc (.cells #[.string x, .int .i64 y] 70) = W at *
      have hws := hnx2.size
      go_region_held3 (fun w' => Below w.heap.size W w' ∧ w'.heap[wr.heap.size]? = some (.cells #[.string x, .int .i64 y] 70 (0, 0)) ∧ w'.cell? ⟨wr.heap.size, 0, none⟩ = some (.string x) ∧ w'.cell? ⟨wr.heap.size, 1, none⟩ = some (.int .i64 y))
        (first
          | exact ⟨(Below.refl _ _).drew, hq0, d0, d1⟩
          | (have h := (by assumption : Below w.heap.size W _ ∧ _ ∧ _ ∧ _); exact ⟨h.1.trans b3, hkp3 _ _ h.2.1 (by omega) (fun c fr e => by injection e with _ e2; revert e2; decide), by rw [Lib.cell_of_heap (hkp3 _ _ h.2.1 (by omega) (fun c fr e => by injection e with _ e2; revert e2; decide))]; rfl, by rw [Lib.cell_of_heap (hkp3 _ _ h.2.1 (by omega) (fun c fr e => by injection e with _ e2; revert e2; decide))]; rfl⟩)
          | (have h := (by assumption : Below w.heap.size W _ ∧ _ ∧ _ ∧ _); exact ⟨h.1.trans (b2.mono (Nat.le_trans hws h.1.size)), by rw [b2.block _ (Array.getElem?_eq_some_iff.1 h.2.1).1]; exact h.2.1, cell_later b2 h.2.2.1, cell_later b2 h.2.2.2⟩)
          | (have h := (by assumption : Below w.heap.size W _ ∧ _ ∧ _ ∧ _); exact ⟨h.1.trans (b1.mono (Nat.le_trans hws h.1.size)), by rw [b1.block _ (Array.getElem?_eq_some_iff.1 h.2.1).1]; exact h.2.1, cell_later b1 h.2.2.1, cell_later b1 h.2.2.2⟩)
          | go_keep)
        (first
          | (go_at_call_of 35 (Value.int IntKind.i64 (x.size : Int)); refine (hD1.out _ (HG3.out.later ((Below.refl _ _).drew) (Nat.le_refl _))).mono ?_; rintro e w1 ⟨rfl, b1⟩)
          | (go_at_call_of 35 (Value.int IntKind.i64 y); refine (hD2.out _ ((HG3.out.later ((Below.refl _ _).drew) (Nat.le_refl _)).later b1 (Nat.le_refl _))).mono ?_; rintro e w2 ⟨rfl, b2⟩)
          | (go_at_call 39; have h := (by assumption : Below w.heap.size W _ ∧ _ ∧ _ ∧ _); refine (bd_write_kept _ _ _ _ _ (((HBD2.out.later ((Below.refl _ _).drew)).later b1).later b2) HLS.out (Nat.le_trans hws h.1.size)).mono ?_; clear h; rintro e w3 ⟨rfl, hbd3, b3, hkp3⟩))
      all_goals
        have h := (by assumption : Below w.heap.size W _ ∧ _ ∧ _ ∧ _)
        have HB := hide (hnx2.trans h.1)
        have HBD3 := hide hbd3
        clear h hbd3 hkp3 hq0 d0 d1 b1 b2 b3
        go_wp2
        go_roundw
        case rel => exact ⟨k + 1, by omega, by go_num, by rw [HT.out, ← HE.out]; exact HBD3, HB.out⟩
        case measure => (simp [intOf]; try omega)
    · have HT : Hid (l.take k = l) := List.take_of_length_le (by omega)
      rw [HT.out] at HBD
      have HS := hide (bd_string _ _ _ wr HBD.out hnx.size)
      clear HBD
      go_wp2_with fail
      refine HS.out.mono ?_
      rintro e w1 ⟨rfl, b1⟩
      have HB := hide (hnx.trans (b1.mono (by omega)))
      clear b1 HS
      go_wp2
      go_ret
      exact ⟨rfl, HB.out⟩
end Go.Proofs.YtjkggijkccbcpaaDoor
