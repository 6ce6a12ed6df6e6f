/- The journal: what the text of entries is, and what is read of a text. -/
import Derived.Test.YtjkggijkccbcpaaDoorNamesM
import Derived.Test.YtjkggijkccbcpaaDoorPairLaw
import Derived.Test.YtjkggijkccbcpaaDoorPairSum
import Derived.Test.YtjkggijkccbcpaaDoorApp2
set_option linter.unusedSimpArgs false
set_option linter.unusedVariables false
/- Pairs: Check, KeySum, SliceOf, number; what the readers' steps say (plain). -/
namespace Go.Proofs.YtjkggijkccbcpaaDoor
open Go.RowKit

def numOk (l : List UInt8) : Bool := (numS l).isSome
theorem numOk_eq (l : List UInt8) : numOk l = (atoiOk l && decide (Lib.itoa (atoiV l) = l)) := by
  unfold numOk numS atoiOk atoiV
  cases h : Lib.atoiAll l
  · simp only [Bool.true_and]
    split <;> rename_i h2
    · rw [decide_eq_true h2]; rfl
    · rw [decide_eq_false h2]; rfl
  · rfl
  · rfl
theorem numOk_val {l : List UInt8} (h : numOk l = true) : numS l = some (atoiV l) := by
  have h2 := h
  rw [numOk_eq] at h2
  simp only [Bool.and_eq_true, decide_eq_true_eq] at h2
  unfold numOk at h
  obtain ⟨v, hv⟩ := Option.isSome_iff_exists.1 h
  rw [hv]
  unfold numS at hv
  unfold atoiV
  revert hv
  cases Lib.atoiAll l
  · intro hv
    simp only at hv ⊢
    split at hv
    · exact hv.symm
    · cases hv
  · intro hv; cases hv
  · intro hv; cases hv
theorem numOk_ref {l : List UInt8} : (refNum l).2 = numOk l := ref_fine l
theorem numOk_refv {l : List UInt8} (h : numOk l = true) : (refNum l).1 = atoiV l := by
  have := refNum_ok (numOk_val h)
  rw [this]
theorem atoiV_bd {l : List UInt8} : -9223372036854775808 ≤ atoiV l ∧ atoiV l ≤ 9223372036854775807 := by
  unfold atoiV
  cases h : Lib.atoiAll l
  · exact Lib.atoiAll_bounds h
  · exact ⟨show (-9223372036854775808 : Int) ≤ 0 by decide, show (0 : Int) ≤ 9223372036854775807 by decide⟩
  · exact Lib.atoiSat_bounds l
theorem numOk_bd {l : List UInt8} (h : numOk l = true) : -9223372036854775808 ≤ atoiV l ∧ atoiV l ≤ 9223372036854775807 := atoiV_bd
end Go.Proofs.YtjkggijkccbcpaaDoor
/- Pairs: the document's sum of a key, its numerals. -/
namespace Go.Proofs.YtjkggijkccbcpaaDoor
open Go.RowKit

theorem xor_same {h : Int} {c : UInt8} (h0 : 0 ≤ h) (h1 : h < 4294967296) : bits BinOp.xor IntKind.i64 h (c.toNat : Int) = bits BinOp.xor IntKind.u32 h ((c.toNat : Int) % 4294967296) ∧ 0 ≤ bits BinOp.xor IntKind.i64 h (c.toNat : Int) ∧ bits BinOp.xor IntKind.i64 h (c.toNat : Int) < 4294967296 := by
  obtain ⟨n, rfl⟩ : ∃ n : Nat, h = n := ⟨h.toNat, by omega⟩
  have hc : c.toNat < 256 := c.toNat_lt
  have hn : n < 2 ^ 32 := by omega
  have hx : n ^^^ c.toNat < 2 ^ 32 := Nat.xor_lt_two_pow hn (by omega)
  have e64 : bits BinOp.xor IntKind.i64 (n : Int) (c.toNat : Int) = ((n ^^^ c.toNat : Nat) : Int) := by
    have key : (BitVec.ofInt 64 (n : Int) ^^^ BitVec.ofInt 64 (c.toNat : Int)).toNat = n ^^^ c.toNat := by
      rw [BitVec.toNat_xor, BitVec.toNat_ofInt, BitVec.toNat_ofInt]
      congr 1 <;> omega
    show IntKind.i64.wrap ((BitVec.ofInt 64 (n : Int) ^^^ BitVec.ofInt 64 (c.toNat : Int)).toNat : Nat) = _
    rw [key, IntKind.wrap_i64]
    omega
  have e32 : bits BinOp.xor IntKind.u32 (n : Int) ((c.toNat : Int) % 4294967296) = ((n ^^^ c.toNat : Nat) : Int) := by
    have key : (BitVec.ofInt 32 (n : Int) ^^^ BitVec.ofInt 32 ((c.toNat : Int) % 4294967296)).toNat = n ^^^ c.toNat := by
      rw [BitVec.toNat_xor, BitVec.toNat_ofInt, BitVec.toNat_ofInt]
      congr 1 <;> omega
    show IntKind.u32.wrap ((BitVec.ofInt 32 (n : Int) ^^^ BitVec.ofInt 32 ((c.toNat : Int) % 4294967296)).toNat : Nat) = _
    rw [key]
    exact IntWalk.u32_in _ (by omega)
  rw [e64, e32]
  exact ⟨rfl, by omega, by omega⟩
end Go.Proofs.YtjkggijkccbcpaaDoor
namespace Go.Proofs.YtjkggijkccbcpaaDoor
open Go.RowKit

abbrev En := ByteArray × List Int × List ByteArray
def numsT (N : List Int) : List UInt8 := N.flatMap fun n => 32 :: Lib.itoa n
def sizesOf (T : List ByteArray) : List Int := T.map fun t => (t.size : Int)
def joinT (T : List ByteArray) : List UInt8 := T.flatMap fun t => t.data.toList
def entT (e : En) : List UInt8 := (e.1.data.toList ++ numsT e.2.1 ++ 59 :: numsT (sizesOf e.2.2)) ++ 10 :: (joinT e.2.2 ++ [46])

def numsL : List (List UInt8) → Option (List Int)
  | [] => some []
  | w :: ws => (numS w).bind fun n => (numsL ws).map (n :: ·)
def numsS : List UInt8 → Option (List Int)
  | [] => some []
  | c :: r => if c = 32 then numsL (splitAt 32 r) else none
def takeS : List Int → List UInt8 → Option (List ByteArray × List UInt8)
  | [], r => some ([], r)
  | k :: ks, r => if k < 0 ∨ (r.length : Int) < k then none else (takeS ks (r.drop k.toNat)).map fun x => (tx (r.take k.toNat) :: x.1, x.2)
/-- the dot behind the texts -/
def dotS : List UInt8 → Option (List UInt8)
  | 46 :: r => some r
  | _ => none
def oneE (s : List UInt8) : Option (En × List UInt8) :=
  if (cutAt 10 s).2.2 = true ∧ (cutAt 59 (cutAt 10 s).1).2.2 = true ∧ (cutAt 32 (cutAt 59 (cutAt 10 s).1).1).1 ≠ [] then
    (numsS ((cutAt 59 (cutAt 10 s).1).1.drop (cutAt 32 (cutAt 59 (cutAt 10 s).1).1).1.length)).bind fun n =>
      (numsS (cutAt 59 (cutAt 10 s).1).2.1).bind fun z =>
        (takeS z (cutAt 10 s).2.1).bind fun T => (dotS T.2).map fun r => ((tx (cutAt 32 (cutAt 59 (cutAt 10 s).1).1).1, n, T.1), r)
  else none

theorem numsL_nil : numsL [] = some [] := by unfold numsL; rfl
theorem numsL_cons (w : List UInt8) (ws : List (List UInt8)) : numsL (w :: ws) = (numS w).bind fun n => (numsL ws).map (n :: ·) := by conv => lhs; unfold numsL
theorem takeS_nil (r : List UInt8) : takeS [] r = some ([], r) := by unfold takeS; rfl
theorem takeS_cons (k : Int) (ks : List Int) (r : List UInt8) : takeS (k :: ks) r = if k < 0 ∨ (r.length : Int) < k then none else (takeS ks (r.drop k.toNat)).map fun x => (tx (r.take k.toNat) :: x.1, x.2) := by conv => lhs; unfold takeS
/-- one number ahead -/
theorem numsS_cons {w r : List UInt8} (hw : (32 : UInt8) ∉ w) (hr : r = [] ∨ r.head? = some 32) : numsS (32 :: (w ++ r)) = (numS w).bind fun n => (numsS r).map (n :: ·) := by
  show (if (32 : UInt8) = 32 then numsL (splitAt 32 (w ++ r)) else none) = _
  rw [if_pos rfl]
  rcases r with _ | ⟨c, r⟩
  · rw [List.append_nil, splitAt_no hw, numsL_cons]
    rfl
  · obtain rfl : c = 32 := by simpa using hr
    rw [splitAt_yes hw, numsL_cons]
    show _ = (numS w).bind fun n => (if (32 : UInt8) = 32 then numsL (splitAt 32 r) else none).map (n :: ·)
    rw [if_pos rfl]
theorem numsT_cons (n : Int) (N : List Int) : numsT (n :: N) = 32 :: (Lib.itoa n ++ numsT N) := by simp [numsT]
theorem numsT_head (N : List Int) : numsT N = [] ∨ (numsT N).head? = some 32 := by
  rcases N with _ | ⟨n, N⟩
  · left; rfl
  · right; rw [numsT_cons]; rfl
def i64s (N : List Int) : Prop := ∀ n ∈ N, -9223372036854775808 ≤ n ∧ n ≤ 9223372036854775807
theorem numsS_text : ∀ (N : List Int), i64s N → numsS (numsT N) = some N
  | [], _ => rfl
  | n :: N, h => by
    rw [numsT_cons, numsS_cons (itoa_not (by decide) (by decide)) (numsT_head N), num_iff.2 ⟨h n List.mem_cons_self, rfl⟩, numsS_text N fun x hx => h x (List.mem_cons_of_mem _ hx)]
    rfl
theorem numsT_not {c : UInt8} {N : List Int} (h32 : c ≠ 32) (h45 : c ≠ 45) (hd : isDig c = false) : c ∉ numsT N := by
  intro hc
  obtain ⟨n, _, hn⟩ := List.mem_flatMap.1 hc
  rcases List.mem_cons.1 hn with e | e
  · exact h32 e
  · exact itoa_not h45 hd e
theorem joinT_cons (t : ByteArray) (T : List ByteArray) : joinT (t :: T) = t.data.toList ++ joinT T := by simp [joinT]
theorem takeS_text : ∀ (T : List ByteArray) (r : List UInt8), takeS (sizesOf T) (joinT T ++ r) = some (T, r)
  | [], r => by show takeS [] r = _; rw [takeS_nil]
  | t :: T, r => by
    have hl : t.data.toList.length = t.size := Array.length_toList
    rw [show sizesOf (t :: T) = (t.size : Int) :: sizesOf T from rfl, takeS_cons, joinT_cons, List.append_assoc, if_neg (by rw [List.length_append, hl]; omega)]
    rw [show ((t.size : Int)).toNat = t.data.toList.length by rw [hl]; omega, List.drop_left, List.take_left, takeS_text T r]
    simp [tx_of]
/-- a kind that may be: some bytes, none of which ends it -/
structure KindOk (k : ByteArray) : Prop where
  ne : k.data.toList ≠ []
  no10 : (10 : UInt8) ∉ k.data.toList
  no59 : (59 : UInt8) ∉ k.data.toList
  no32 : (32 : UInt8) ∉ k.data.toList
theorem cut_kind {k : ByteArray} {N : List Int} (hk : KindOk k) : (cutAt 32 (k.data.toList ++ numsT N)).1 = k.data.toList := by
  rcases N with _ | ⟨n, N⟩
  · rw [show numsT [] = [] from rfl, List.append_nil, cutAt_no hk.no32]
  · rw [numsT_cons, cutAt_yes hk.no32]
theorem oneE_text {e : En} (hk : KindOk e.1) (hn : i64s e.2.1) (hs : i64s (sizesOf e.2.2)) (r : List UInt8) : oneE (entT e ++ r) = some (e, r) := by
  obtain ⟨k, N, T⟩ := e
  dsimp only at hk hn hs
  have h1 : cutAt 10 (entT (k, N, T) ++ r) = (k.data.toList ++ numsT N ++ 59 :: numsT (sizesOf T), joinT T ++ [46] ++ r, true) := by
    unfold entT
    dsimp only
    rw [List.append_assoc _ (10 :: _) r, List.cons_append]
    refine cutAt_yes ?_
    simp only [List.mem_append, List.mem_cons, not_or]
    exact ⟨⟨hk.no10, numsT_not (by decide) (by decide) (by decide)⟩, by decide, numsT_not (by decide) (by decide) (by decide)⟩
  have h2 : cutAt 59 (k.data.toList ++ numsT N ++ 59 :: numsT (sizesOf T)) = (k.data.toList ++ numsT N, numsT (sizesOf T), true) := by
    refine cutAt_yes ?_
    simp only [List.mem_append, not_or]
    exact ⟨hk.no59, numsT_not (by decide) (by decide) (by decide)⟩
  unfold oneE
  rw [h1]
  dsimp only
  rw [h2]
  dsimp only
  rw [cut_kind hk, if_pos ⟨rfl, rfl, hk.ne⟩, List.drop_left, numsS_text N hn, numsS_text _ hs, List.append_assoc]
  simp only [Option.bind_some]
  rw [takeS_text]
  simp [dotS, tx_of]
/-- what is behind is shorter -/
theorem takeS_len : ∀ (z : List Int) (r : List UInt8) (x), takeS z r = some x → x.2.length ≤ r.length
  | [], r, x, h => by rw [takeS_nil] at h; cases h; exact Nat.le_refl _
  | k :: z, r, x, h => by
    rw [takeS_cons] at h
    split at h
    · cases h
    · obtain ⟨y, hy, rfl⟩ := Option.map_eq_some_iff.1 h
      have := takeS_len z _ y hy
      rw [List.length_drop] at this
      show y.2.length ≤ _
      omega
theorem dotS_some {l r : List UInt8} (h : dotS l = some r) : l = 46 :: r := by
  unfold dotS at h
  split at h
  · cases h; rfl
  · cases h
theorem oneE_len {s r : List UInt8} {e : En} (h : oneE s = some (e, r)) : r.length < s.length := by
  unfold oneE at h
  split at h
  · obtain ⟨n, _, h⟩ := Option.bind_eq_some_iff.1 h
    obtain ⟨z, _, h⟩ := Option.bind_eq_some_iff.1 h
    obtain ⟨T, h1, h⟩ := Option.bind_eq_some_iff.1 h
    obtain ⟨r', h2, h⟩ := Option.map_eq_some_iff.1 h
    cases h
    have h3 := takeS_len _ _ _ h1
    rw [dotS_some h2, List.length_cons] at h3
    have h4 := (cutAt_len 10 s).1
    omega
  · cases h
def parseEF : Nat → List UInt8 → List En
  | 0, _ => []
  | n + 1, s => match oneE s with
    | some (e, r) => e :: parseEF n r
    | none => []
theorem parseEF_more : ∀ (n m : Nat) (s : List UInt8), s.length < n → s.length < m → parseEF n s = parseEF m s
  | 0, _, _, h, _ => by omega
  | _, 0, _, _, h => by omega
  | n + 1, m + 1, s, h1, h2 => by
    unfold parseEF
    split
    · rename_i e r hs
      have := oneE_len hs
      rw [parseEF_more n m r (by omega) (by omega)]
    · rfl
def parseE (s : List UInt8) : List En := parseEF (s.length + 1) s
theorem parseE_none {s : List UInt8} (h : oneE s = none) : parseE s = [] := by
  unfold parseE parseEF; rw [h]
theorem parseE_some {s r : List UInt8} {e : En} (h : oneE s = some (e, r)) : parseE s = e :: parseE r := by
  have hl := oneE_len h
  show parseEF (s.length + 1) s = _
  unfold parseEF
  rw [h]
  show e :: parseEF s.length r = _
  rw [parseEF_more s.length (r.length + 1) r hl (by omega)]
  rfl
theorem oneE_nil : oneE [] = none := by
  unfold oneE
  rw [if_neg]
  rw [cutAt_no (by simp)]
  simp
theorem take_part : ∀ (T : List ByteArray) (m : Nat), m ≤ (joinT T).length → (takeS (sizesOf T) ((joinT T).take m)).bind (fun x => dotS x.2) = none
  | [], m, h => by
    show (takeS [] _).bind _ = _
    rw [takeS_nil]
    rw [show joinT [] = [] from rfl, List.take_nil]
    rfl
  | t :: T, m, h => by
    have hl : t.data.toList.length = t.size := Array.length_toList
    rw [joinT_cons, List.length_append, hl] at h
    rw [show sizesOf (t :: T) = (t.size : Int) :: sizesOf T from rfl, takeS_cons, joinT_cons]
    by_cases hm : m < t.size
    · rw [if_pos (by right; rw [List.length_take]; omega)]
      rfl
    · have e1 : List.take m (t.data.toList ++ joinT T) = t.data.toList ++ (joinT T).take (m - t.size) := by
        rw [List.take_append, hl, List.take_of_length_le (by omega)]
      have e2 : (t.size : Int).toNat = t.data.toList.length := by rw [hl]; omega
      rw [e1, if_neg (by rw [List.length_append, hl]; omega), e2, List.drop_left, List.take_left]
      have h2 := take_part T (m - t.size) (by omega)
      cases h3 : takeS (sizesOf T) (List.take (m - t.size) (joinT T)) with
      | none => rfl
      | some x =>
        rw [h3] at h2
        exact h2
/-- an entry that can be written and read -/
structure EnOk (e : En) : Prop where
  kind : KindOk e.1
  nums : i64s e.2.1
  sizes : i64s (sizesOf e.2.2)
theorem oneE_part {e : En} (h : EnOk e) {n : Nat} (hn : n < (entT e).length) : oneE ((entT e).take n) = none := by
  obtain ⟨k, N, T⟩ := e
  obtain ⟨hk, hN, hT⟩ := h
  dsimp only at hk hN hT
  have n10 : (10 : UInt8) ∉ k.data.toList ++ numsT N ++ 59 :: numsT (sizesOf T) := by
    simp only [List.mem_append, List.mem_cons, not_or]
    exact ⟨⟨hk.no10, numsT_not (by decide) (by decide) (by decide)⟩, by decide, numsT_not (by decide) (by decide) (by decide)⟩
  have h2 : cutAt 59 (k.data.toList ++ numsT N ++ 59 :: numsT (sizesOf T)) = (k.data.toList ++ numsT N, numsT (sizesOf T), true) := by
    refine cutAt_yes ?_
    simp only [List.mem_append, not_or]
    exact ⟨hk.no59, numsT_not (by decide) (by decide) (by decide)⟩
  have he : entT (k, N, T) = (k.data.toList ++ numsT N ++ 59 :: numsT (sizesOf T)) ++ 10 :: (joinT T ++ [46]) := rfl
  rw [he] at hn ⊢
  generalize hH : k.data.toList ++ numsT N ++ 59 :: numsT (sizesOf T) = H at *
  by_cases hc : n ≤ H.length
  · rw [List.take_append_of_le_length hc]
    unfold oneE
    rw [if_neg]
    rw [cutAt_no (fun hm => n10 (List.mem_of_mem_take hm))]
    simp
  · obtain ⟨m, rfl⟩ : ∃ m, n = H.length + (m + 1) := ⟨n - H.length - 1, by omega⟩
    have hm : m ≤ (joinT T).length := by simp at hn; omega
    rw [List.take_length_add_append, List.take_succ_cons, List.take_append_of_le_length hm]
    unfold oneE
    rw [cutAt_yes n10]
    dsimp only
    rw [h2]
    dsimp only
    rw [cut_kind hk, if_pos ⟨rfl, rfl, hk.ne⟩, List.drop_left, numsS_text N hN, numsS_text _ hT]
    simp only [Option.bind_some]
    have h3 := take_part T m hm
    cases h4 : takeS (sizesOf T) (List.take m (joinT T)) with
    | none => rfl
    | some x =>
      rw [h4] at h3
      have h5 : dotS x.2 = none := h3
      simp [h5]
theorem parseE_text : ∀ (l : List En) (r : List UInt8), (∀ e ∈ l, EnOk e) → parseE (l.flatMap entT ++ r) = l ++ parseE r
  | [], r, _ => rfl
  | e :: l, r, h => by
    have he := h e List.mem_cons_self
    rw [List.flatMap_cons, List.append_assoc, parseE_some (oneE_text he.kind he.nums he.sizes _), parseE_text l r fun x hx => h x (List.mem_cons_of_mem _ hx)]
    rfl
/-- a journal that is cut -/
theorem parseE_cut {l : List En} (hl : ∀ e ∈ l, EnOk e) {n m : Nat} (hm : m ≤ l.length) (h1 : ((l.take m).flatMap entT).length ≤ n) (h2 : ∀ e, l[m]? = some e → n < ((l.take (m + 1)).flatMap entT).length) : parseE ((l.flatMap entT).take n) = l.take m := by
  have hs : l.flatMap entT = (l.take m).flatMap entT ++ (l.drop m).flatMap entT := by rw [← List.flatMap_append, List.take_append_drop]
  rw [hs, List.take_append, List.take_of_length_le h1, parseE_text _ _ fun e he => hl e (List.mem_of_mem_take he)]
  rcases hd : l.drop m with _ | ⟨e, t⟩
  · rw [List.flatMap_nil, List.take_nil, parseE_none oneE_nil, List.append_nil]
  · have hx : l[m]? = some e := by rw [← List.head?_drop, hd]; rfl
    have h3 := h2 e hx
    obtain ⟨hlt, hg⟩ := List.getElem?_eq_some_iff.1 hx
    rw [List.take_succ_eq_append_getElem hlt, hg, List.flatMap_append, List.length_append] at h3
    simp only [List.flatMap_cons, List.flatMap_nil, List.append_nil] at h3
    have h4 : n - ((l.take m).flatMap entT).length < (entT e).length := by omega
    rw [List.flatMap_cons, List.take_append_of_le_length (by omega), parseE_none (oneE_part (hl e (List.mem_of_getElem? hx)) h4), List.append_nil]
end Go.Proofs.YtjkggijkccbcpaaDoor
