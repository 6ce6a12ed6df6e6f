/- The text of a job, and how it is read (plain). -/
import Derived.Test.YtjkggijkccbcpaaDoorJobLaw
import Derived.Test.YtjkggijkccbcpaaDoorNamesM
import Derived.Test.YtjkggijkccbcpaaDoorPairLaw
import Derived.Test.YtjkggijkccbcpaaDoorJourLaw
set_option linter.unusedSimpArgs false
set_option linter.unusedVariables false
namespace Go.Proofs.YtjkggijkccbcpaaDoor
open Go.RowKit

/-- a text's bytes, those of '"' and of '\\' with '\\' ahead -/
def escB (l : List UInt8) : List UInt8 := l.flatMap fun c => if c = 34 ∨ c = 92 then [92, c] else [c]
def quoteL (l : List UInt8) : List UInt8 := 34 :: (escB l ++ [34])
def numPart (k n : Int) : List UInt8 := if k = 3 ∨ k = 6 ∨ k = 7 then 32 :: Lib.itoa n else []
def txtPart (k : Int) (s : ByteArray) : List UInt8 := if k = 4 then 32 :: quoteL s.data.toList else []
mutual
/-- the text of an expression -/
def textX : ExprV → List UInt8
  | .mk k n s a => nameK k ++ (numPart k n ++ (txtPart k s ++ textXs a))
def textXs : List ExprV → List UInt8
  | [] => []
  | x :: l => 32 :: (textX x ++ textXs l)
end
def eachT (b : Bool) : List UInt8 := if b = true then [101, 97, 99, 104, 32] else []
def whenT (r : RuleV) : List UInt8 :=
  if r.when_ = 0 then [] else (if r.when_ = 1 then [115, 97, 109, 101, 32] else [111, 116, 104, 101, 114, 32]) ++ (textX r.cond ++ (32 :: (quoteL r.txt.data.toList ++ [32])))
/-- the line of a rule -/
def ruleT (r : RuleV) : List UInt8 := eachT r.each ++ (whenT r ++ ([107, 101, 121, 32] ++ (textX r.key ++ ([32, 118, 97, 108, 32] ++ textX r.val))))
def foldK (k : Int) : List UInt8 :=
  if k = 1 then [115, 117, 109] else if k = 2 then [108, 101, 97, 115, 116] else if k = 3 then [103, 114, 101, 97, 116, 101, 115, 116] else if k = 4 then [99, 111, 117, 110, 116] else []
def headT (fold slices : Int) (early : Bool) : List UInt8 := foldK fold ++ (32 :: (Lib.itoa slices ++ (if early = true then [32, 101, 97, 114, 108, 121] else [])))
/-- the text of a job -/
def jobT (rs : List RuleV) (fold slices : Int) (early : Bool) : List UInt8 := headT fold slices early ++ (10 :: rs.flatMap fun r => ruleT r ++ [10])

/-- a word, what is behind it -/
def wordR (s : List UInt8) : List UInt8 × List UInt8 := ((cutAt 32 s).1, (cutAt 32 s).2.1)
/-- behind a '"': a text, what is behind it -/
def quoG : List UInt8 → Option (List UInt8 × List UInt8)
  | [] => none
  | [c] => if c = 34 then some ([], []) else none
  | c :: d :: l => if c = 92 then (quoG l).map fun p => (d :: p.1, p.2) else if c = 34 then some ([], d :: l) else (quoG (d :: l)).map fun p => (c :: p.1, p.2)
/-- a text in '"', what is behind it, is it none -/
def quotedR (s : List UInt8) : List UInt8 × List UInt8 × Bool :=
  match s with
  | [] => ([], [], true)
  | c :: l => if c = 34 then (match quoG l with
      | some (t, r) => (match r with
        | [] => (t, [], false)
        | d :: r' => if d = 32 then (t, r', false) else (t, d :: r', true))
      | none => ([], c :: l, true)) else ([], c :: l, true)
/-- the kind of a name -/
def kindN (w : List UInt8) : Int :=
  if w = nameK 1 then 1 else if w = nameK 2 then 2 else if w = nameK 3 then 3 else if w = nameK 4 then 4 else if w = nameK 5 then 5
  else if w = nameK 6 then 6 else if w = nameK 7 then 7 else if w = nameK 8 then 8 else if w = nameK 9 then 9 else if w = nameK 10 then 10 else 0
def manyK (k : Int) : Nat := if k = 6 ∨ k = 8 then 1 else if k = 5 ∨ k = 10 then 2 else 0
/-- kids, one behind the other, as long as nothing is wrong -/
def readKids (rd : List UInt8 → ExprV × List UInt8 × Bool) : Nat → List UInt8 → Bool → List ExprV × List UInt8 × Bool
  | 0, s, bad => ([], s, bad)
  | m + 1, s, bad => if bad = true then ([], s, bad) else ((rd s).1 :: (readKids rd m (rd s).2.1 (rd s).2.2).1, (readKids rd m (rd s).2.1 (rd s).2.2).2)
/-- the number behind a name, of the kinds that have one -/
def numR (k : Int) (s : List UInt8) : Int × List UInt8 × Bool := if k = 3 ∨ k = 6 ∨ k = 7 then (atoiV (wordR s).1, (wordR s).2, !numOk (wordR s).1) else (0, s, false)
def txtR (k : Int) (s : List UInt8) : List UInt8 × List UInt8 × Bool := if k = 4 then quotedR s else ([], s, false)
/-- what stands in an expression besides its kids -/
def ownX (s : List UInt8) : Int × Int × List UInt8 × List UInt8 × Bool :=
  (kindN (wordR s).1, (numR (kindN (wordR s).1) (wordR s).2).1, (txtR (kindN (wordR s).1) (numR (kindN (wordR s).1) (wordR s).2).2.1).1, (txtR (kindN (wordR s).1) (numR (kindN (wordR s).1) (wordR s).2).2.1).2.1,
    decide (kindN (wordR s).1 = 0) || ((numR (kindN (wordR s).1) (wordR s).2).2.2 || (txtR (kindN (wordR s).1) (numR (kindN (wordR s).1) (wordR s).2).2.1).2.2))
/-- an expression, what is behind it, is something wrong; so many floors may be under it -/
def readX : Nat → List UInt8 → Bool → ExprV × List UInt8 × Bool
  | 0, s, _ => (.mk (ownX s).1 (ownX s).2.1 (tx (ownX s).2.2.1) [], (ownX s).2.2.2.1, true)
  | f + 1, s, bad =>
    let c := readKids (fun s => readX f s false) (manyK (ownX s).1) (ownX s).2.2.2.1 (bad || (ownX s).2.2.2.2)
    (.mk (ownX s).1 (ownX s).2.1 (tx (ownX s).2.2.1) c.1, c.2.1, c.2.2)
/-- is this the next word? -/
def nextR (w s : List UInt8) : Bool := (w ++ [32]).isPrefixOf s
def afterR (w s : List UInt8) : List UInt8 := if nextR w s = true then s.drop (w.length + 1) else s
def wEach : List UInt8 := [101, 97, 99, 104]
def wSame : List UInt8 := [115, 97, 109, 101]
def wOther : List UInt8 := [111, 116, 104, 101, 114]
def wKey : List UInt8 := [107, 101, 121]
def wVal : List UInt8 := [118, 97, 108]
/-- always, same or other -/
def whenR (s : List UInt8) : Int := if nextR wSame s = true then 1 else if nextR wOther s = true then 2 else 0
def afterW (s : List UInt8) : List UInt8 := if nextR wSame s = true then s.drop 5 else if nextR wOther s = true then s.drop 6 else s
def blankX : ExprV := .mk 0 0 (tx []) []
/-- the condition and its text -/
def condR (s : List UInt8) : ExprV × List UInt8 × List UInt8 × Bool :=
  if whenR s = 0 then (blankX, [], afterW s, false)
  else ((readX 5 (afterW s) false).1, (quotedR (readX 5 (afterW s) false).2.1).1, (quotedR (readX 5 (afterW s) false).2.1).2.1, (readX 5 (afterW s) false).2.2 || (quotedR (readX 5 (afterW s) false).2.1).2.2)
/-- key and value, of what is behind the condition -/
def keyR (s : List UInt8) (bad : Bool) : ExprV × List UInt8 × Bool := readX 5 (afterR wKey s) (!nextR wKey s || bad)
def valR (s : List UInt8) (bad : Bool) : ExprV × List UInt8 × Bool := readX 5 (afterR wVal s) (!nextR wVal s || bad)
/-- a line as a rule, is something wrong -/
def readRule (s : List UInt8) : RuleV × Bool :=
  let e := nextR wEach s
  let c := condR (afterR wEach s)
  let k := keyR c.2.2.1 c.2.2.2
  let v := valR k.2.1 k.2.2
  (⟨e, whenR (afterR wEach s), c.1, tx c.2.1, k.1, v.1⟩, v.2.2 || !v.2.1.isEmpty)
def foldN (w : List UInt8) : Int := if w = foldK 1 then 1 else if w = foldK 2 then 2 else if w = foldK 3 then 3 else if w = foldK 4 then 4 else 0
/-- a text without its last end of a line -/
def trim10 (s : List UInt8) : List UInt8 := if s.getLast? = some 10 then s.dropLast else s
def linesR (s : List UInt8) : List (List UInt8) := splitAt 10 (trim10 s)
def earlyW : List UInt8 := [101, 97, 114, 108, 121]
def headR (h : List UInt8) : Int × Int × Bool × Bool :=
  (foldN (wordR h).1, atoiV (wordR (wordR h).2).1, decide ((wordR (wordR h).2).2 = earlyW), !numOk (wordR (wordR h).2).1)
/-- a text as a job: rules, how it is folded, slices, early, is something wrong -/
def readJob (s : List UInt8) : List RuleV × Int × Int × Bool × Bool :=
  (((linesR s).drop 1).map fun l => (readRule l).1, (headR ((linesR s).headD [])).1, (headR ((linesR s).headD [])).2.1, (headR ((linesR s).headD [])).2.2.1,
    (headR ((linesR s).headD [])).2.2.2 || ((linesR s).drop 1).any fun l => (readRule l).2)

theorem indexByte_mem {l : List UInt8} {c : UInt8} (h : c ∈ l) : 0 ≤ Lib.indexByte l c := by
  have h1 := Lib.indexByte_ge l c
  rcases Int.lt_or_le (Lib.indexByte l c) 0 with h2 | h2
  · obtain ⟨k, hk⟩ := List.mem_iff_getElem?.1 h
    exact absurd hk (Lib.indexByte_none (by omega) k)
  · exact h2
theorem quote_10 {l : List UInt8} (h : (10 : UInt8) ∉ l) : (10 : UInt8) ∉ quoteL l := by
  unfold quoteL escB
  simp only [List.mem_cons, List.mem_append, List.mem_flatMap, not_or, not_exists, not_and, List.not_mem_nil, or_false]
  refine ⟨by decide, fun c hc => ?_, by decide⟩
  have : c ≠ 10 := fun e => h (e ▸ hc)
  split
  · simp; exact fun e => this e.symm
  · simp; exact fun e => this e.symm
/-- what may stand behind -/
def Sep (R : List UInt8) : Prop := R = [] ∨ ∃ R', R = 32 :: R'
theorem wordR_eq {w R : List UInt8} (h : (32 : UInt8) ∉ w) (hR : Sep R) : wordR (w ++ R) = (w, R.drop 1) := by
  unfold wordR
  rcases hR with rfl | ⟨R', rfl⟩
  · rw [List.append_nil, cutAt_no h]; rfl
  · rw [cutAt_yes h]; rfl
theorem nameK_not (k : Int) : (32 : UInt8) ∉ nameK k ∧ (10 : UInt8) ∉ nameK k := by
  unfold nameK
  constructor <;> (repeat' split) <;> decide
theorem nameK_same {a b : Int} (ha : 1 ≤ a ∧ a ≤ 10) (hb : 1 ≤ b ∧ b ≤ 10) (h : nameK a = nameK b) : a = b := by
  have h1 : a = 1 ∨ a = 2 ∨ a = 3 ∨ a = 4 ∨ a = 5 ∨ a = 6 ∨ a = 7 ∨ a = 8 ∨ a = 9 ∨ a = 10 := by omega
  have h2 : b = 1 ∨ b = 2 ∨ b = 3 ∨ b = 4 ∨ b = 5 ∨ b = 6 ∨ b = 7 ∨ b = 8 ∨ b = 9 ∨ b = 10 := by omega
  rcases h1 with rfl | rfl | rfl | rfl | rfl | rfl | rfl | rfl | rfl | rfl <;> rcases h2 with rfl | rfl | rfl | rfl | rfl | rfl | rfl | rfl | rfl | rfl <;> first | rfl | (exfalso; revert h; decide)
theorem kindN_name {k : Int} (h : 1 ≤ k ∧ k ≤ 10) : kindN (nameK k) = k := by
  have h1 : k = 1 ∨ k = 2 ∨ k = 3 ∨ k = 4 ∨ k = 5 ∨ k = 6 ∨ k = 7 ∨ k = 8 ∨ k = 9 ∨ k = 10 := by omega
  rcases h1 with rfl | rfl | rfl | rfl | rfl | rfl | rfl | rfl | rfl | rfl <;> decide
theorem quoG_esc (R : List UInt8) : ∀ l : List UInt8, quoG (escB l ++ 34 :: R) = some (l, R)
  | [] => by
    cases R with
    | nil => rfl
    | cons d R => simp [escB, quoG]
  | c :: l => by
    have ih := quoG_esc R l
    by_cases hc : c = 34 ∨ c = 92
    · have e : escB (c :: l) ++ 34 :: R = 92 :: c :: (escB l ++ 34 :: R) := by simp [escB, hc]
      rw [e, quoG, if_pos rfl, ih]; rfl
    · have e : escB (c :: l) ++ 34 :: R = c :: (escB l ++ 34 :: R) := by simp [escB, hc]
      rw [e]
      obtain ⟨d, r, hd⟩ : ∃ d r, escB l ++ 34 :: R = d :: r := by
        cases h : escB l ++ 34 :: R with
        | nil => simp at h
        | cons d r => exact ⟨d, r, rfl⟩
      rw [hd] at ih ⊢
      rw [quoG, if_neg (fun e => hc (.inr e)), if_neg (fun e => hc (.inl e)), ih]; rfl
theorem quotedR_eq (l : List UInt8) {R : List UInt8} (hR : Sep R) : quotedR (quoteL l ++ R) = (l, R.drop 1, false) := by
  have e : quoteL l ++ R = 34 :: (escB l ++ 34 :: R) := by simp [quoteL]
  rw [e]
  unfold quotedR
  simp only [if_pos, quoG_esc]
  rcases hR with rfl | ⟨R', rfl⟩ <;> simp
theorem itoa_32 (v : Int) : (32 : UInt8) ∉ Lib.itoa v ∧ (10 : UInt8) ∉ Lib.itoa v := ⟨itoa_not (by decide) (by decide), itoa_not (by decide) (by decide)⟩
theorem numOk_itoa {v : Int} (h : -9223372036854775808 ≤ v ∧ v ≤ 9223372036854775807) : numOk (Lib.itoa v) = true ∧ atoiV (Lib.itoa v) = v := by
  have h1 : numS (Lib.itoa v) = some v := num_iff.2 ⟨h, rfl⟩
  have h2 : numOk (Lib.itoa v) = true := by unfold numOk; rw [h1]; rfl
  refine ⟨h2, ?_⟩
  have h3 := numOk_val h2
  rw [h1] at h3
  exact (Option.some.inj h3).symm
theorem sep_cons (l : List UInt8) : Sep (32 :: l) := .inr ⟨l, rfl⟩
theorem sep_app {A R : List UInt8} (hA : Sep A) (hR : Sep R) : Sep (A ++ R) := by
  rcases hA with rfl | ⟨A', rfl⟩
  · exact hR
  · exact .inr ⟨A' ++ R, rfl⟩
theorem sep_num (k n : Int) : Sep (numPart k n) := by unfold numPart; split; exact sep_cons _; exact .inl rfl
theorem sep_txt (k : Int) (s : ByteArray) : Sep (txtPart k s) := by unfold txtPart; split; exact sep_cons _; exact .inl rfl
theorem sep_kids (a : List ExprV) : Sep (textXs a) := by cases a <;> simp [textXs, Sep]
theorem numR_eq {k n : Int} (hn : (k = 3 ∨ k = 6 ∨ k = 7) ∨ n = 0) (hb : -9223372036854775808 ≤ n ∧ n ≤ 9223372036854775807) {R : List UInt8} (hR : Sep R) :
    numR k ((numPart k n ++ R).drop 1) = (n, R.drop 1, false) := by
  unfold numR numPart
  by_cases hk : k = 3 ∨ k = 6 ∨ k = 7
  · rw [if_pos hk, if_pos hk]
    have e : (32 :: Lib.itoa n ++ R).drop 1 = Lib.itoa n ++ R := rfl
    rw [e, wordR_eq (itoa_32 n).1 hR]
    obtain ⟨h1, h2⟩ := numOk_itoa hb
    simp [h1, h2]
  · rw [if_neg hk, if_neg hk]
    rcases hn with h1 | rfl
    · exact absurd h1 hk
    · rfl
theorem txtR_eq {k : Int} {s : ByteArray} (hs : k = 4 ∨ s.data.toList = []) {R : List UInt8} (hR : Sep R) : txtR k ((txtPart k s ++ R).drop 1) = (s.data.toList, R.drop 1, false) := by
  unfold txtR txtPart
  by_cases hk : k = 4
  · rw [if_pos hk, if_pos hk]
    exact quotedR_eq _ hR
  · rw [if_neg hk, if_neg hk]
    rcases hs with h1 | h1
    · exact absurd h1 hk
    · rw [h1]; rfl
theorem ownX_eq {k n : Int} {s : ByteArray} {a : List ExprV} (hk : 1 ≤ k ∧ k ≤ 10) (hn : (k = 3 ∨ k = 6 ∨ k = 7) ∨ n = 0) (hb : -9223372036854775808 ≤ n ∧ n ≤ 9223372036854775807) (hs : k = 4 ∨ s.data.toList = []) {R : List UInt8} (hR : Sep R) :
    ownX (textX (.mk k n s a) ++ R) = (k, n, s.data.toList, (textXs a ++ R).drop 1, false) := by
  have e : textX (.mk k n s a) ++ R = nameK k ++ (numPart k n ++ (txtPart k s ++ (textXs a ++ R))) := by simp [textX]
  have s2 : Sep (textXs a ++ R) := sep_app (sep_kids a) hR
  have s1 : Sep (txtPart k s ++ (textXs a ++ R)) := sep_app (sep_txt k s) s2
  have s0 : Sep (numPart k n ++ (txtPart k s ++ (textXs a ++ R))) := sep_app (sep_num k n) s1
  unfold ownX
  rw [e, wordR_eq (nameK_not k).1 s0]
  simp only [kindN_name hk]
  rw [numR_eq hn hb s1, txtR_eq hs s2]
  have : decide (k = 0) = false := by simp; omega
  simp [this]
theorem readKids_eq (rd : List UInt8 → ExprV × List UInt8 × Bool) {R : List UInt8} (hR : Sep R) : ∀ (l : List ExprV), (∀ x ∈ l, ∀ R', Sep R' → rd (textX x ++ R') = (x, R'.drop 1, false)) → readKids rd l.length ((textXs l ++ R).drop 1) false = (l, R.drop 1, false)
  | [], _ => by simp [readKids, textXs]
  | x :: l, h => by
    have h1 := h x List.mem_cons_self (textXs l ++ R) (sep_app (sep_kids l) hR)
    have h2 := readKids_eq rd hR l fun y hy => h y (List.mem_cons_of_mem _ hy)
    have e : (textXs (x :: l) ++ R).drop 1 = textX x ++ (textXs l ++ R) := by simp [textXs]
    rw [List.length_cons, readKids, e, h1]
    simp only [Bool.false_eq_true, if_false]
    rw [h2]
theorem shL_mem : ∀ {a : List ExprV} {ts : List Bool} {each : Bool}, shL a ts each = true → a.length = ts.length → ∀ x ∈ a, ∃ t, shE x t each = true
  | [], _, _, _, _, x, hx => by cases hx
  | a :: l, [], _, _, h, x, hx => by simp at h
  | a :: l, t :: ts, each, h, hl, x, hx => by
    rw [shL, Bool.and_eq_true] at h
    rcases List.mem_cons.1 hx with rfl | hx
    · exact ⟨t, h.1⟩
    · exact shL_mem h.2 (by simpa using hl) x hx
theorem deepL_mem : ∀ {a : List ExprV} {x : ExprV}, x ∈ a → x.deep ≤ ExprV.deepL a
  | [], _, h => by cases h
  | y :: l, x, h => by
    rw [ExprV.deepL]
    rcases List.mem_cons.1 h with rfl | h
    · exact Nat.le_max_left _ _
    · exact Nat.le_trans (deepL_mem h) (Nat.le_max_right _ _)
theorem shE_own {k n : Int} {s : ByteArray} {a : List ExprV} {text each : Bool} (h : shE (.mk k n s a) text each = true) :
    (1 ≤ k ∧ k ≤ 10) ∧ ((k = 3 ∨ k = 6 ∨ k = 7) ∨ n = 0) ∧ (-9223372036854775808 ≤ n ∧ n ≤ 9223372036854775807) ∧ (k = 4 ∨ s.data.toList = []) ∧ a.length = manyK k ∧ ((10 : UInt8) ∉ s.data.toList) := by
  obtain ⟨h1, h2, h3, _, h5, _⟩ := shE_parts h
  have hn : ((k = 3 ∨ k = 6 ∨ k = 7) ∨ n = 0) ∧ (-9223372036854775808 ≤ n ∧ n ≤ 9223372036854775807) := by
    unfold nOk at h2
    split at h2
    · simp at h2; omega
    · split at h2
      · simp at h2; omega
      · split at h2
        · simp at h2; omega
        · simp at h2; omega
  have hs : (k = 4 ∨ s.data.toList = []) ∧ ((10 : UInt8) ∉ s.data.toList) := by
    unfold sOk at h3
    split at h3
    · rename_i hk
      refine ⟨.inl hk, fun hm => ?_⟩
      simp only [Bool.and_eq_true, Bool.not_eq_true', decide_eq_false_iff_not] at h3
      exact h3.2 (indexByte_mem hm)
    · have : s.data.toList = [] := by rw [← tl]; exact List.isEmpty_iff.1 h3
      exact ⟨.inr this, by rw [this]; simp⟩
  refine ⟨h1, hn.1, hn.2, hs.1, ?_, hs.2⟩
  rw [h5]
  unfold kidsOf manyK
  have hk : k = 1 ∨ k = 2 ∨ k = 3 ∨ k = 4 ∨ k = 5 ∨ k = 6 ∨ k = 7 ∨ k = 8 ∨ k = 9 ∨ k = 10 := by omega
  rcases hk with rfl | rfl | rfl | rfl | rfl | rfl | rfl | rfl | rfl | rfl <;> rfl
/-- what is written is read -/
theorem readX_text : ∀ (f : Nat) (e : ExprV) (text each : Bool) (R : List UInt8), shE e text each = true → e.deep ≤ f → Sep R → readX f (textX e ++ R) false = (e, R.drop 1, false)
  | 0, e, _, _, _, _, hd, _ => by
    obtain ⟨k, n, s, a⟩ := e
    rw [ExprV.deep] at hd
    omega
  | f + 1, e, text, each, R, h, hd, hR => by
    obtain ⟨k, n, s, a⟩ := e
    obtain ⟨h1, h2, h3, h4, h5, _⟩ := shE_own h
    obtain ⟨_, _, _, _, h6, h7⟩ := shE_parts h
    rw [ExprV.deep] at hd
    rw [readX]
    simp only [ownX_eq (a := a) h1 h2 h3 h4 hR, Bool.or_false]
    rw [← h5, readKids_eq _ hR a fun x hx R' hR' => ?_]
    · simp only [tx_of]
    · obtain ⟨t, ht⟩ := shL_mem h7 h6 x hx
      exact readX_text f x t each R' ht (by have := deepL_mem hx; omega) hR'
theorem textX_10 : ∀ (f : Nat) (e : ExprV) (text each : Bool), shE e text each = true → e.deep ≤ f → (10 : UInt8) ∉ textX e
  | 0, e, _, _, _, hd => by
    obtain ⟨k, n, s, a⟩ := e
    rw [ExprV.deep] at hd
    omega
  | f + 1, e, text, each, h, hd => by
    obtain ⟨k, n, s, a⟩ := e
    obtain ⟨h1, h2, h3, h4, h5, h6⟩ := shE_own h
    obtain ⟨_, _, _, _, h7, h8⟩ := shE_parts h
    rw [ExprV.deep] at hd
    have hk : ∀ l : List ExprV, (∀ x ∈ l, (10 : UInt8) ∉ textX x) → (10 : UInt8) ∉ textXs l := by
      intro l
      induction l with
      | nil => intro _; simp [textXs]
      | cons x l ih =>
        intro h
        simp only [textXs, List.mem_cons, List.mem_append, not_or]
        exact ⟨by decide, h x List.mem_cons_self, ih fun y hy => h y (List.mem_cons_of_mem _ hy)⟩
    rw [textX]
    simp only [List.mem_append, not_or]
    refine ⟨(nameK_not k).2, ?_, ?_, hk a fun x hx => ?_⟩
    · unfold numPart
      split
      · simp only [List.mem_cons, not_or]; exact ⟨by decide, (itoa_32 n).2⟩
      · simp
    · unfold txtPart
      split
      · simp only [List.mem_cons, not_or]; exact ⟨by decide, quote_10 h6⟩
      · simp
    · obtain ⟨t, ht⟩ := shL_mem h8 h7 x hx
      exact textX_10 f x t each ht (by have := deepL_mem hx; omega)
end Go.Proofs.YtjkggijkccbcpaaDoor
