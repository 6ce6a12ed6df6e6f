/- The reference: a lexer of a line: an expression: the walk. -/
import Derived.Test.YtgeedjlbajmdkaaGreatDoorLexQ
import Derived.Test.YtgeedjlbajmdkaaGreatDoorJobCheck
import Derived.Test.YtgeedjlbajmdkaaGreatDoorPair2
import Derived.Test.YtgeedjlbajmdkaaGreatDoorJText
import Derived.Test.YtgeedjlbajmdkaaGreatDoorJText3
import Derived.Test.YtgeedjlbajmdkaaGreatDoorJParse
set_option linter.unusedSimpArgs false
set_option linter.unusedVariables false
/- The reference: a lexer of a line: an expression. -/
namespace Go.Proofs.YtgeedjlbajmdkaaGreatDoor
open Go.RowKit

/-- how far a lexer may be behind the end -/
def cF : Nat → Nat
  | 0 => 3
  | f + 1 => 3 + 2 * cF f
theorem cF_le : ∀ f, f ≤ 5 → 3 ≤ cF f ∧ cF f ≤ 189 := by
  intro f hf
  have : f = 0 ∨ f = 1 ∨ f = 2 ∨ f = 3 ∨ f = 4 ∨ f = 5 := by omega
  rcases this with rfl | rfl | rfl | rfl | rfl | rfl <;> decide
/-- what has been found, of the first ones -/
def kindTo (k : Nat) (w : List UInt8) : Int := if kindN w < k then kindN w else 0
theorem kindTo_start (w : List UInt8) : kindTo 1 w = 0 := by unfold kindTo; have := kindN_range w; split <;> omega
theorem kindTo_done (w : List UInt8) : kindTo 11 w = kindN w := by unfold kindTo; have := kindN_range w; rw [if_pos (by omega)]
theorem kindTo_hit {k : Nat} {w : List UInt8} (hk : 1 ≤ k ∧ k ≤ 10) (h : nameK (k : Int) = w) : kindTo (k + 1) w = k := by
  have : kindN w = k := by rw [← h]; exact kindN_name (by omega)
  unfold kindTo
  rw [this, if_pos (by omega)]
theorem kindTo_miss {k : Nat} {w : List UInt8} (hk : 1 ≤ k ∧ k ≤ 10) (h : nameK (k : Int) ≠ w) : kindTo (k + 1) w = kindTo k w := by
  have h2 : kindN w ≠ (k : Int) := fun e => h (by rw [← e]; exact kindN_of (by rw [e]; omega))
  unfold kindTo
  by_cases h3 : kindN w < (k : Int)
  · rw [if_pos h3, if_pos (by omega)]
  · rw [if_neg h3, if_neg (by omega)]
theorem names_at {w : World} {b : Nat} (h : Bk w b [.string ⟨#[]⟩, .string ⟨#[105, 116]⟩, .string ⟨#[108, 105, 110, 101]⟩, .string ⟨#[119, 111, 114, 100]⟩, .string ⟨#[116, 101, 120, 116]⟩, .string ⟨#[99, 97, 116]⟩, .string ⟨#[99, 117, 116]⟩, .string ⟨#[110, 117, 109]⟩, .string ⟨#[108, 101, 110]⟩, .string ⟨#[109, 97, 110, 121]⟩, .string ⟨#[97, 100, 100]⟩]) {k : Nat} (hk : 1 ≤ k ∧ k ≤ 10) : w.cell? ⟨b, k, none⟩ = some (.string (tx (nameK (k : Int)))) := by
  have h1 : k = 1 ∨ k = 2 ∨ k = 3 ∨ k = 4 ∨ k = 5 ∨ k = 6 ∨ k = 7 ∨ k = 8 ∨ k = 9 ∨ k = 10 := by omega
  rcases h1 with rfl | rfl | rfl | rfl | rfl | rfl | rfl | rfl | rfl | rfl
  · exact h.get (j := 1) rfl
  · exact h.get (j := 2) rfl
  · exact h.get (j := 3) rfl
  · exact h.get (j := 4) rfl
  · exact h.get (j := 5) rfl
  · exact h.get (j := 6) rfl
  · exact h.get (j := 7) rfl
  · exact h.get (j := 8) rfl
  · exact h.get (j := 9) rfl
  · exact h.get (j := 10) rfl
/-- what lies there while an expression is read -/
structure LE (w wr : World) (b : Nat) (S : ByteArray) (q : Nat) (bad : Bool) (e : List Value) : Prop where
  lx : Lx wr b S q bad
  eb : Bk wr (w.heap.size + 2) e
  rb : Bk wr w.heap.size [.int .i64 0, .int .i64 0, .string ⟨#[]⟩, .slice none 0 0]
  k : KeptBut (fun k => k = b) w wr
  sz : w.heap.size + 3 ≤ wr.heap.size
  lt : b < w.heap.size
theorem LE.call {w wr w' : World} {b q q' : Nat} {S : ByteArray} {bad bad' : Bool} {e : List Value} (h : LE w wr b S q bad e) (hx : Lx w' b S q' bad') (k : KeptBut (fun k => k = b) wr w') : LE w w' b S q' bad' e :=
  ⟨hx, h.eb.kept k (by have := h.lt; intro e; omega), h.rb.kept k (by have := h.lt; intro e; omega), h.k.trans k, Nat.le_trans h.sz k.size, h.lt⟩
theorem LE.later {w wr w' : World} {b q : Nat} {S : ByteArray} {bad : Bool} {e : List Value} (h : LE w wr b S q bad e) (hb : Below wr.heap.size wr w') : LE w w' b S q bad e :=
  h.call (h.lx.later hb) (KeptBut.of_below hb (Nat.le_refl _))
theorem LE.setBad {w wr : World} {b q : Nat} {S : ByteArray} {bad : Bool} {e : List Value} (h : LE w wr b S q bad e) (b' : Bool) : LE w (wr.setCell ⟨b, 2, none⟩ (.bool b')) b S q b' e :=
  h.call (h.lx.setBad b') ((KeptBut.refl (fun k => k = b) wr).setCell (p := ⟨b, 2, none⟩) rfl _)
theorem LE.setE {w wr : World} {b q : Nat} {S : ByteArray} {bad : Bool} {e : List Value} (h : LE w wr b S q bad e) (j : Nat) (v : Value) (hj : j < e.length) : LE w (wr.setCell ⟨w.heap.size + 2, j, none⟩ v) b S q bad (e.set j v) :=
  ⟨Bk.setO h.lx (p := ⟨w.heap.size + 2, j, none⟩) (by have := h.lt; simp; omega) v, h.eb.set (k := j) v (List.getElem?_eq_getElem hj), Bk.setO h.rb (p := ⟨w.heap.size + 2, j, none⟩) (by simp) v,
    h.k.setNew (p := ⟨w.heap.size + 2, j, none⟩) (by simp) v, by simpa [World.setCell] using h.sz, h.lt⟩
theorem refNum_bd (s : List UInt8) : -9223372036854775808 ≤ (refNum s).1 ∧ (refNum s).1 ≤ 9223372036854775807 := by
  by_cases h : numOk s = true
  · rw [numOk_refv h]; exact atoiV_bd
  · have h2 : (refNum s).2 = false := by rw [numOk_ref]; simpa using h
    unfold refNum at h2 ⊢
    split
    · exact ⟨by decide, by decide⟩
    · rename_i h3
      rw [if_neg h3] at h2
      split
      · rename_i h4
        rw [if_pos h4] at h2
        split
        · exact ⟨Int.le_refl _, by show (-9223372036854775808 : Int) ≤ 9223372036854775807; decide⟩
        · rename_i h5
          rw [if_neg h5] at h2
          cases h2
      · exact ⟨by decide, by decide⟩
theorem LE.grown {w A w2 : World} {b q : Nat} {S : ByteArray} {bad : Bool} {e : List Value} {row : Option Nat} (h : LE w A b S q bad e) (hg : A.grownBy w2 row) (hr : ∀ k, row = some k → w.heap.size + 3 ≤ k) : LE w w2 b S q bad e := by
  have hkk := KeptBut.of_grown (S := fun k => row = some k) hg fun q e => e
  exact ⟨h.lx.kept hkk fun e => by have h1 := hr _ e; have h2 := h.lt; omega, h.eb.kept hkk fun e => by have h1 := hr _ e; omega, h.rb.kept hkk fun e => by have h1 := hr _ e; omega,
    h.k.grown hg fun k e => by have h1 := hr k e; omega, Nat.le_trans h.sz hkk.size, h.lt⟩
/-- what an expression that is read comes to -/
def LRX (b f : Nat) (S : ByteArray) (p : Nat) (w : World) (e : Ending) (w' : World) : Prop :=
  (∃ (r : ExR) (q : Nat) (bd : Bool), e = .returned r.agg ∧ ExS (fun k => w.heap.size ≤ k) w' (f + 1) r.tree r.cells ∧ Lx w' b S q bd ∧ q ≤ max p S.size + cF f ∧ bd = (readX f (restB S p) false).2.2 ∧ (bd = false → r.tree = (readX f (restB S p) false).1 ∧ restB S q = (readX f (restB S p) false).2.1)) ∧ KeptBut (fun k => k = b) w w'
theorem readX_bad {f : Nat} {s : List UInt8} (h : f = 0 ∨ (ownX s).2.2.2.2 = true) : (readX f s false).2.2 = true := by
  cases f with
  | zero => rfl
  | succ f =>
    rw [readX]
    have h1 : (ownX s).2.2.2.2 = true := by rcases h with h | h; cases h; exact h
    rw [h1]
    dsimp only
    rw [show (false || true) = true from rfl, readKids_bad]
theorem readX_ok {f : Nat} {s : List UInt8} (hf : f ≠ 0) (h : (ownX s).2.2.2.2 = false) : readX f s false = (.mk (ownX s).1 (ownX s).2.1 (tx (ownX s).2.2.1) (readKids (fun s => readX (f - 1) s false) (manyK (ownX s).1) (ownX s).2.2.2.1 false).1, (readKids (fun s => readX (f - 1) s false) (manyK (ownX s).1) (ownX s).2.2.2.1 false).2) := by
  cases f with
  | zero => exact absurd rfl hf
  | succ f => rw [readX, h]; rfl
end Go.Proofs.YtgeedjlbajmdkaaGreatDoor
/- The reference: a text as a job (plain): what a line of a job that may be reads as. -/
namespace Go.Proofs.YtgeedjlbajmdkaaGreatDoor
open Go.RowKit

theorem wordR_next {w s : List UInt8} (h : nextR w s = true) (hw : (32 : UInt8) ∉ w) : wordR s = (w, s.drop (w.length + 1)) := by
  unfold nextR at h
  rw [List.isPrefixOf_iff_prefix] at h
  obtain ⟨t, rfl⟩ := h
  have e : w ++ [32] ++ t = w ++ (32 :: t) := by simp
  rw [e, wordR_eq hw (sep_cons t)]
  congr 1
  rw [show w ++ 32 :: t = (w ++ [32]) ++ t by simp, List.drop_append_of_le_length (by simp)]
  simp
/-- what the line of a rule that may be reads as -/
theorem line_valid {r : RuleV} (h : ruleF r = 0) :
    nextR wEach (ruleT r) = r.each ∧ whenR (afterR wEach (ruleT r)) = r.when_ ∧ ∃ L4 L5, condR (afterR wEach (ruleT r)) = (r.cond, r.txt.data.toList, L4, false) ∧ (wordR L4).1 = wKey ∧ readX 5 (wordR L4).2 false = (r.key, L5, false) ∧ (wordR L5).1 = wVal ∧ readX 5 (wordR L5).2 false = (r.val, [], false) := by
  obtain ⟨hok, _, _⟩ := rule_parts h
  obtain ⟨k1, k2, k3⟩ := hok.key
  obtain ⟨v1, v2, v3⟩ := hok.val
  have hE : nextR wEach (ruleT r) = r.each ∧ afterR wEach (ruleT r) = whenT r ++ ([107, 101, 121, 32] ++ (textX r.key ++ ([32, 118, 97, 108, 32] ++ textX r.val))) := by
    unfold ruleT
    cases he : r.each with
    | true =>
      have n1 : nextR wEach (eachT true ++ (whenT r ++ ([107, 101, 121, 32] ++ (textX r.key ++ ([32, 118, 97, 108, 32] ++ textX r.val))))) = true := next_each _
      refine ⟨n1, ?_⟩
      unfold afterR
      rw [if_pos n1]; rfl
    | false =>
      obtain ⟨c, t, e, hc⟩ := whenT_head r (textX r.key ++ ([32, 118, 97, 108, 32] ++ textX r.val))
      have e2 : eachT false ++ (whenT r ++ ([107, 101, 121, 32] ++ (textX r.key ++ ([32, 118, 97, 108, 32] ++ textX r.val)))) = c :: t := by rw [e]; rfl
      have n1 : nextR wEach (c :: t) = false := next_not (fun h => hc h.symm)
      rw [e2]
      refine ⟨n1, ?_⟩
      unfold afterR
      rw [if_neg (by rw [n1]; decide), ← e]
  obtain ⟨hc, hw⟩ := condR_eq h (textX r.key ++ ([32, 118, 97, 108, 32] ++ textX r.val))
  have w1 : wordR ([107, 101, 121, 32] ++ (textX r.key ++ ([32, 118, 97, 108, 32] ++ textX r.val))) = (wKey, textX r.key ++ (32 :: ([118, 97, 108, 32] ++ textX r.val))) := by
    rw [show ([107, 101, 121, 32] ++ (textX r.key ++ ([32, 118, 97, 108, 32] ++ textX r.val)) : List UInt8) = wKey ++ (32 :: (textX r.key ++ (32 :: ([118, 97, 108, 32] ++ textX r.val)))) from rfl, wordR_eq (by decide) (sep_cons _)]
    rfl
  have w2 : wordR ([118, 97, 108, 32] ++ textX r.val) = (wVal, textX r.val) := by
    rw [show ([118, 97, 108, 32] ++ textX r.val : List UInt8) = wVal ++ (32 :: textX r.val) from rfl, wordR_eq (by decide) (sep_cons _)]
    rfl
  refine ⟨hE.1, by rw [hE.2, hw], _, [118, 97, 108, 32] ++ textX r.val, by rw [hE.2, hc], by rw [w1], ?_, by rw [w2], ?_⟩
  · rw [w1, readX_text 5 _ true r.each _ k3 k2 (sep_cons _)]; rfl
  · rw [w2]
    have := readX_text 5 _ false r.each [] v3 v2 (.inl rfl)
    rw [List.append_nil] at this
    exact this
/-- what is read is no more than two kids wide -/
theorem readKids_nodes {rd : List UInt8 → ExprV × List UInt8 × Bool} {n : Nat} (h : ∀ s, (rd s).1.nodes ≤ n) : ∀ (m : Nat) (s : List UInt8) (b : Bool), ExprV.nodesL (readKids rd m s b).1 ≤ m * n
  | 0, s, b => by simp [readKids, ExprV.nodesL]
  | m + 1, s, b => by
    rw [readKids]
    split
    · simp [ExprV.nodesL]
    · have h1 := h s
      have h2 := readKids_nodes h m (rd s).2.1 (rd s).2.2
      simp only [ExprV.nodesL]
      rw [Nat.succ_mul]
      omega
theorem readX_nodes : ∀ (f : Nat) (s : List UInt8) (b : Bool), (readX f s b).1.nodes ≤ 2 ^ (f + 1) - 1
  | 0, s, b => by simp [readX, ExprV.nodes, ExprV.nodesL]
  | f + 1, s, b => by
    rw [readX]
    have h1 := readKids_nodes (fun s => readX_nodes f s false) (manyK (ownX s).1) (ownX s).2.2.2.1 (b || (ownX s).2.2.2.2)
    have h2 : manyK (ownX s).1 ≤ 2 := by unfold manyK; split; omega; split <;> omega
    have h3 : manyK (ownX s).1 * (2 ^ (f + 1) - 1) ≤ 2 * (2 ^ (f + 1) - 1) := Nat.mul_le_mul_right _ h2
    simp only [ExprV.nodes]
    have h4 : 2 ^ (f + 1 + 1) = 2 * 2 ^ (f + 1) := by rw [Nat.pow_succ]; omega
    have h5 : 1 ≤ 2 ^ (f + 1) := Nat.one_le_two_pow
    omega
/-- the first line of a job's rules -/
theorem lines_cut {r : RuleV} {l : List RuleV} (h : ruleF r = 0) : cutAt 10 (linesT (r :: l)) = (ruleT r, linesT l, true) := by
  have e : linesT (r :: l) = ruleT r ++ 10 :: linesT l := by unfold linesT; simp
  rw [e, cutAt_yes (ruleT_10 h)]
theorem head_cut (rs : List RuleV) (fold slices : Int) (early : Bool) : cutAt 10 (jobT rs fold slices early) = (headT fold slices early, linesT rs, true) := by
  unfold jobT
  rw [cutAt_yes (headT_10 _ _ _)]; rfl
theorem linesT_nil {l : List RuleV} (h : linesT l = []) : l = [] := by
  cases l with
  | nil => rfl
  | cons r l => unfold linesT at h; simp at h
end Go.Proofs.YtgeedjlbajmdkaaGreatDoor
/- The reference: a line of a job's text as a rule (plain), and a rule under way. -/
namespace Go.Proofs.YtgeedjlbajmdkaaGreatDoor
open Go.RowKit

/-- value, key of a line, behind what is read by now -/
def valS (r : RuleV) (L : List UInt8) : Option RuleV :=
  if (wordR L).1 = wVal ∧ (readX 5 (wordR L).2 false).2.2 = false then some { r with val := (readX 5 (wordR L).2 false).1 } else none
def keyS (r : RuleV) (L : List UInt8) : Option RuleV :=
  if (wordR L).1 = wKey ∧ (readX 5 (wordR L).2 false).2.2 = false then valS { r with key := (readX 5 (wordR L).2 false).1 } (readX 5 (wordR L).2 false).2.1 else none
/-- a line as a rule -/
def lineR (L : List UInt8) : Option RuleV :=
  if (condR (afterR wEach L)).2.2.2 = false then keyS ⟨nextR wEach L, whenR (afterR wEach L), (condR (afterR wEach L)).1, tx (condR (afterR wEach L)).2.1, blankX, blankX⟩ (condR (afterR wEach L)).2.2.1 else none
theorem lineR_valid {r : RuleV} (h : ruleF r = 0) : lineR (ruleT r) = some r := by
  obtain ⟨h1, h2, L4, L5, h3, h4, h5, h6, h7⟩ := line_valid h
  have et : tx r.txt.data.toList = r.txt := by
    apply ByteArray.ext
    simp [tx]
  unfold lineR
  rw [h3, if_pos rfl]
  unfold keyS
  simp only
  rw [if_pos ⟨h4, by rw [h5]⟩, h5]
  unfold valS
  simp only
  rw [if_pos ⟨h6, by rw [h7]⟩, h7, h1, h2, et]
theorem word_each {L : List UInt8} (h : nextR wEach L = true) : (wordR L).2 = afterR wEach L := by
  rw [wordR_next h (by decide)]; unfold afterR; rw [if_pos h]
theorem afterR_no {w L : List UInt8} (h : nextR w L = false) : afterR w L = L := by unfold afterR; rw [if_neg (by rw [h]; decide)]
theorem word_when {L : List UInt8} (h : whenR L ≠ 0) : (wordR L).2 = afterW L := by
  unfold whenR at h
  unfold afterW
  by_cases h1 : nextR wSame L = true
  · rw [if_pos h1, wordR_next h1 (by decide)]; rfl
  · rw [if_neg h1] at h ⊢
    by_cases h2 : nextR wOther L = true
    · rw [if_pos h2, wordR_next h2 (by decide)]; rfl
    · rw [if_neg h2] at h; exact absurd rfl h
theorem when_no {L : List UInt8} (h : whenR L = 0) : afterW L = L := by
  unfold whenR at h
  unfold afterW
  by_cases h1 : nextR wSame L = true
  · rw [if_pos h1] at h; cases h
  · rw [if_neg h1] at h ⊢
    by_cases h2 : nextR wOther L = true
    · rw [if_pos h2] at h; cases h
    · rw [if_neg h2]
/-- a rule under way (since w1): its lexer, its cells, what is read by now -/
structure LB (w1 w : World) (S : ByteArray) (p : Nat) (bad : Bool) (cs : List Value) (T : List ExR) : Prop where
  lx : Lx w w1.heap.size S p bad
  x : Bk w (w1.heap.size + 1) cs
  k : Below w1.heap.size w1 w
  sz : w1.heap.size + 2 ≤ w.heap.size
  ts : ∀ e ∈ T, ExS (fun q => w1.heap.size + 2 ≤ q) w 6 e.tree e.cells
section
variable {w1 w w' : World} {S : ByteArray} {p p' : Nat} {bad bad' : Bool} {cs : List Value} {T : List ExR}
theorem LB.call (h : LB w1 w S p bad cs T) (k : KeptBut (fun q => q = w1.heap.size) w w') (hx : Lx w' w1.heap.size S p' bad') : LB w1 w' S p' bad' cs T :=
  ⟨hx, h.x.kept k (by omega), h.k.trans (k.below (fun q e => by omega) h.k.size), Nat.le_trans h.sz k.size, fun e he => (h.ts e he).kept k fun q hq e2 => by omega⟩
theorem LB.later (h : LB w1 w S p bad cs T) (hb : Below w.heap.size w w') : LB w1 w' S p bad cs T :=
  h.call (KeptBut.of_below hb (Nat.le_refl _)) (h.lx.later hb)
theorem LB.setX (h : LB w1 w S p bad cs T) (k : Nat) {u : Value} (hu : cs[k]? = some u) (v : Value) : LB w1 (w.setCell ⟨w1.heap.size + 1, k, none⟩ v) S p bad (cs.set k v) T :=
  ⟨Bk.setO h.lx (p := ⟨w1.heap.size + 1, k, none⟩) (by simp) v, h.x.set (k := k) v hu, h.k.setCell (p := ⟨w1.heap.size + 1, k, none⟩) (by simp) v, by have := h.sz; simp [World.setCell]; omega,
    fun e he => (h.ts e he).kept ((KeptBut.refl (fun q => q = w1.heap.size + 1) w).setCell (p := ⟨w1.heap.size + 1, k, none⟩) rfl v) fun q hq e2 => by omega⟩
theorem LB.add {e : ExR} (h : LB w1 w S p bad cs T) (he : ExS (fun q => w1.heap.size + 2 ≤ q) w 6 e.tree e.cells) : LB w1 w S p bad cs (e :: T) :=
  ⟨h.lx, h.x, h.k, h.sz, fun x hx => by rcases List.mem_cons.1 hx with rfl | hx; exact he; exact h.ts x hx⟩
end
theorem wpList_append_wide {α : Type} {sz : Nat} {enc : α → List Value} {e : TypeId} {w : World} {base : Nat} {v : Value} {l : List α} {P : Program} {ops : Array Oper} {rest : List Oper} {o : Oper} {a : Act} {Q : Exit → Act → World → Prop} {w0 : World} {bytes : Nat} (hsz : ∀ x, (enc x).length = sz) (s x : Operand) (t : TypeId) (i : TypeInfo) (z : Value) (hgd : o.guard = none)
    (ho : o.op = .call { callee := .builtin .append, args := #[s, x], argTypes := #[t, t] })
    (ht : P.underlying t = some (.slice e)) (hi : P.info? e = some i) (hz : i.zero = some z) (hsize : i.size = sz) (hby : i.bytes = bytes) (hzs : z.cells.size = sz) (hpos : 0 < sz) (hb100 : bytes ≤ 10000)
    (hown : Own sz enc e w base v l) (hbel : Below base w0 w) (hB : base ≤ w.heap.size) (hlen : l.length + 1 ≤ 1000000)
    (hs : a.eval s = v) (y : α) (ad : Addr) (c : Nat) (hx : a.eval x = .slice (some ad) 1 c)
    (hnews : ∀ (j : Nat) (u : Value), (enc y)[j]? = some u → w.cell? (ad.add j) = some u) (h1 : ∀ u ∈ enc y, u.oneCell' = true)
    (h : ∀ v' w', Own sz enc e w' base v' (l ++ [y]) → Below base w0 w' → w.grownBy w' v.ownBlock → (v'.ownBlock = v.ownBlock ∨ v'.ownBlock = some w.heap.size) → wpList P ops Q rest (a.put o.dst v') w') : wpList P ops Q (o :: rest) a w := by
  refine wpList_append_own_at _ hgd s x t ho base e i z sz bytes ht hi hz hsize hby hzs hpos v l.length _ hs hown.2 ad 1 c (enc y) hx (by rw [hsz]; omega) hnews h1 (by unfold maxLen; omega) ?_ hB ?_
  · have : (l.length + 1) * bytes ≤ 1000000 * 10000 := Nat.mul_le_mul hlen hb100
    omega
  · intro v' w' hr hg _ hat
    exact h v' w' (Own.grown (l2 := [y]) (by simpa using hr)) (hown.below hbel hg hB) hg hat
end Go.Proofs.YtgeedjlbajmdkaaGreatDoor
namespace Go.Proofs.YtgeedjlbajmdkaaGreatDoor
open Go.RowKit

set_option maxRecDepth 100000 in
set_option maxHeartbeats 4000000 in
theorem lexpr_step (b f : Nat) (IH : Hid (∀ f', f = f' + 1 → ∀ (deep : Int) (S : ByteArray) (p : Nat) (w : World), deep + f' = 6 → Lx w b S p false → S.size ≤ 100000 → max p S.size + cF f' ≤ 500000 →
    Calls Tryz.prog 58 #[.pointer (some ⟨b, 0, none⟩), .int .i64 deep] w (LRX b f' S p w))) (deep : Int) (hd : deep + f = 6) (S : ByteArray) (p : Nat) (w : World) (hf : f ≤ 5) (hx : Lx w b S p false) (hS : S.size ≤ 100000) (hp : max p S.size + cF f ≤ 500000) :
    Calls Tryz.prog 58 #[.pointer (some ⟨b, 0, none⟩), .int .i64 deep] w (LRX b f S p w) := by
  have HLT : Hid (b < w.heap.size) := Bk.lt hx
  obtain ⟨W1, hW1⟩ : ∃ W, W = w.alloc (.cells #[.int .i64 0, .int .i64 0, .string ⟨#[]⟩, .slice none 0 0] 67) := ⟨_, rfl⟩
  have hb1 : Below w.heap.size w W1 := by rw [hW1]; exact (Below.refl _ _).alloc (Nat.le_refl _) _
  have hz1 : W1.heap.size = w.heap.size + 1 := by rw [hW1]; simp
  have hk1 : Bk W1 w.heap.size [.int .i64 0, .int .i64 0, .string ⟨#[]⟩, .slice none 0 0] := by rw [hW1]; exact Bk.new rfl
  obtain ⟨W2, hW2⟩ : ∃ W, W = W1.alloc (.cells #[.string ⟨#[]⟩, .string ⟨#[105, 116]⟩, .string ⟨#[108, 105, 110, 101]⟩, .string ⟨#[119, 111, 114, 100]⟩, .string ⟨#[116, 101, 120, 116]⟩, .string ⟨#[99, 97, 116]⟩, .string ⟨#[99, 117, 116]⟩, .string ⟨#[110, 117, 109]⟩, .string ⟨#[108, 101, 110]⟩, .string ⟨#[109, 97, 110, 121]⟩, .string ⟨#[97, 100, 100]⟩] 9) := ⟨_, rfl⟩
  have hb2 : Below W1.heap.size W1 W2 := by rw [hW2]; exact (Below.refl _ _).alloc (Nat.le_refl _) _
  have hz2 : W2.heap.size = w.heap.size + 2 := by rw [hW2]; simp [hz1]
  have hk2 : Bk W2 (w.heap.size + 1) [.string ⟨#[]⟩, .string ⟨#[105, 116]⟩, .string ⟨#[108, 105, 110, 101]⟩, .string ⟨#[119, 111, 114, 100]⟩, .string ⟨#[116, 101, 120, 116]⟩, .string ⟨#[99, 97, 116]⟩, .string ⟨#[99, 117, 116]⟩, .string ⟨#[110, 117, 109]⟩, .string ⟨#[108, 101, 110]⟩, .string ⟨#[109, 97, 110, 121]⟩, .string ⟨#[97, 100, 100]⟩] := by rw [hW2, ← hz1]; exact Bk.new rfl
  obtain ⟨W3, hW3⟩ : ∃ W, W = W2.alloc (.cells #[.int .i64 0, .int .i64 0, .string ⟨#[]⟩, .slice none 0 0] 67) := ⟨_, rfl⟩
  have hb3 : Below W2.heap.size W2 W3 := by rw [hW3]; exact (Below.refl _ _).alloc (Nat.le_refl _) _
  have hz3 : W3.heap.size = w.heap.size + 3 := by rw [hW3]; simp [hz2]
  have hk3 : Bk W3 (w.heap.size + 2) [.int .i64 0, .int .i64 0, .string ⟨#[]⟩, .slice none 0 0] := by rw [hW3, ← hz2]; exact Bk.new rfl
  have hbb : Below w.heap.size w W3 := hb1.trans ((hb2.trans (hb3.mono (by omega))).mono (by omega))
  have HE := hide (⟨hx.later hbb, hk3, (hk1.later hb2).later hb3, KeptBut.of_below hbb (Nat.le_refl _), by omega, HLT.out⟩ : LE w W3 b S p false [.int .i64 0, .int .i64 0, .string ⟨#[]⟩, .slice none 0 0])
  have HNM := hide (hk2.later hb3)
  have HW1 := hide hW1
  have HW2 := hide hW2
  have HW3 := hide hW3
  have HZ1 := hide hz1
  have HZ2 := hide hz2
  obtain ⟨hcf1, hcf2⟩ := cF_le f hf
  clear hx hb1 hk1 hb2 hk2 hb3 hk3 hbb hW1 hW2 hW3 hz1 hz2 hz3
  have HWD := hide (lword_any b S p false W3 HE.out.lx hS (by omega))
  obtain ⟨R, hR⟩ : ∃ R, restB S p = R := ⟨_, rfl⟩
  rw [hR] at HWD
  unfold LRX
  rw [hR]
  clear hR
  go_enter Tryz.func58, Tryz.ntmps58
  go_upto_region 3 with (fail)
  rw [← HW1.out, ← HW2.out, ← HW3.out]
  try rw [HZ1.out]
  try rw [HZ2.out]
  clear HW1 HW2 HW3 HZ1 HZ2
  go_wp2_with fail
  refine HWD.out.mono ?_
  rintro e w3 ⟨⟨rfl, q, hx3, hr3, hq3⟩, k3⟩
  have HE3 := hide (HE.out.call hx3 k3)
  have HNM3 := hide (HNM.out.kept k3 (by have := HLT.out; omega))
  obtain ⟨A, hA⟩ : ∃ A, (wordR R).1 = A := ⟨_, rfl⟩
  obtain ⟨B, hB⟩ : ∃ B, (wordR R).2 = B := ⟨_, rfl⟩
  rw [hA]
  rw [hB] at hr3
  have HA := hide hA
  have HBB := hide hB
  have HRQ := hide hr3
  clear hx3 hr3 k3 HWD HE HNM hA hB
  go_wp2
  go_loopw [8] (fun iv wr => ∃ k : Nat, 1 ≤ k ∧ k ≤ 11 ∧ iv = .int .i64 (k : Int) ∧ Hid (LE w wr b S q false [.int .i64 (kindTo k A), .int .i64 0, .string ⟨#[]⟩, .slice none 0 0]) ∧ Hid (Bk wr (w.heap.size + 1) [.string ⟨#[]⟩, .string ⟨#[105, 116]⟩, .string ⟨#[108, 105, 110, 101]⟩, .string ⟨#[119, 111, 114, 100]⟩, .string ⟨#[116, 101, 120, 116]⟩, .string ⟨#[99, 97, 116]⟩, .string ⟨#[99, 117, 116]⟩, .string ⟨#[110, 117, 109]⟩, .string ⟨#[108, 101, 110]⟩, .string ⟨#[109, 97, 110, 121]⟩, .string ⟨#[97, 100, 100]⟩])) (fun iv _ => 11 - (intOf iv).toNat)
  case atStart => exact ⟨1, by omega, by omega, rfl, (by rw [kindTo_start]; exact HE3), HNM3⟩
  case round =>
    clear HE3 HNM3
    obtain ⟨k, hk1, hk2, rfl, HE, HNM⟩ := hrel
    by_cases hlt : k ≤ 10
    · have g1 : decide ((k : Int) ≤ 10) = true := by simp; omega
      have n0 := names_at HNM.out ⟨hk1, hlt⟩
      have f1 : (0 : Int) ≤ (k : Int) ∧ (k : Int) < 11 := by omega
      obtain ⟨f1, f2⟩ := f1
      have c0 := HE.out.eb.get (j := 0) rfl
      by_cases hn : nameK (k : Int) = A
      · have t1 : ((tx (nameK (k : Int))).toList == (tx A).toList) = true := by rw [hn]; exact beqq _
        have HE2 : Hid (LE w (wr.setCell ⟨w.heap.size + 2, 0, none⟩ (.int .i64 (k : Int))) b S q false [.int .i64 (kindTo (k + 1) A), .int .i64 0, .string ⟨#[]⟩, .slice none 0 0]) := by
          rw [kindTo_hit ⟨hk1, hlt⟩ hn]
          exact HE.out.setE 0 _ (by simp)
        have HNM2 := hide (HNM.out.setO (p := ⟨w.heap.size + 2, 0, none⟩) (by simp) (.int .i64 (k : Int)))
        have y0 := HE.out.eb.fz 0
        clear hn HE HNM
        go_wp2
        go_roundw
        case rel => exact ⟨k + 1, by omega, by omega, by go_num, HE2, HNM2⟩
        case measure => (simp [intOf]; try omega)
      · have t1 : ((tx (nameK (k : Int))).toList == (tx A).toList) = false := by rw [tl, tl, tx_list, tx_list, beq_eq_false_iff_ne]; exact hn
        have HE2 : Hid (LE w wr b S q false [.int .i64 (kindTo (k + 1) A), .int .i64 0, .string ⟨#[]⟩, .slice none 0 0]) := by
          rw [kindTo_miss ⟨hk1, hlt⟩ hn]; exact HE
        clear hn HE
        go_wp2
        go_roundw
        case rel => exact ⟨k + 1, by omega, by omega, by go_num, HE2, HNM⟩
        case measure => (simp [intOf]; try omega)
    · obtain rfl : k = 11 := by omega
      rw [kindTo_done] at HE
      clear HNM
      obtain ⟨kd, hkd⟩ : ∃ kd, kindN A = kd := ⟨_, rfl⟩
      rw [hkd] at HE
      have hkr := kindN_range A
      rw [hkd] at hkr
      have HOX : Hid (ownX R = (kd, (numR kd B).1, (txtR kd (numR kd B).2.1).1, (txtR kd (numR kd B).2.1).2.1, decide (kd = 0) || ((numR kd B).2.2 || (txtR kd (numR kd B).2.1).2.2))) := by
        show _ = _
        unfold ownX
        rw [HA.out, HBB.out, hkd]
      clear HA HBB hkd hlt hk1 hk2
      have c0 := HE.out.eb.get (j := 0) rfl
      have d2 := HE.out.lx.bad
      have z2 : wr.frozen? ⟨b, 2, none⟩ = false := Bk.fz HE.out.lx 2
      have hkb : -9223372036854775808 ≤ kd ∧ kd ≤ 9223372036854775807 := by omega
      by_cases hbx : kd = 0 ∨ 5 < deep
      · have HBD := hide (readX_bad (f := f) (s := R) (by
          rcases hbx with h | h
          · right; rw [HOX.out, h]; rfl
          · left; omega))
        obtain ⟨qf, bf, nn, TT, ea, ec, l, HEW, hqf, hbf, HTW, HFIN⟩ : ∃ (qf : Nat) (bf : Bool) (nn : Int) (TT : ByteArray) (ea : Option Addr) (ec : Nat) (l : List ExR), Hid (LE w wr b S qf false [.int .i64 kd, .int .i64 nn, .string TT, .slice ea l.length ec]) ∧ qf ≤ max p S.size + cF f ∧ bf = true ∧ Hid (∀ w', ExS (fun q => w.heap.size + 3 ≤ q) w' (f + 1) (.mk kd nn TT (l.map ExR.tree)) (encX kd nn TT ea (l.map ExR.tree).length ec)) ∧ Hid (bf = (readX f R false).2.2 ∧ (bf = false → ExprV.mk kd nn TT (l.map ExR.tree) = (readX f R false).1 ∧ restB S qf = (readX f R false).2.1)) :=
          ⟨q, true, 0, ⟨#[]⟩, none, 0, [], HE, by omega, rfl, fun w' => (KidsIn.nil (base := w.heap.size + 3)).tree hkb (by decide) (by decide) (by decide) (fun q h => h), ⟨by rw [HBD.out], fun h => by cases h⟩⟩
        subst hbf
        clear HE c0
        have c0 := HEW.out.eb.get (j := 0) rfl
        obtain ⟨kz, hkz⟩ : ∃ kz, (kd == 0) = kz := ⟨_, rfl⟩
        have HEF := hide (HEW.out.setBad true)
        obtain ⟨wf, hwf⟩ : ∃ wf, wf = wr.setCell ⟨b, 2, none⟩ (.bool true) := ⟨_, rfl⟩
        rw [← hwf] at HEF
        have HWF := hide hwf
        have HTR := hide (HTW.out wf)
        clear hwf HBD HOX HTW HEW
        obtain ⟨bf, hbf⟩ : ∃ bf, bf = true := ⟨_, rfl⟩
        rw [← hbf] at HEF HFIN
        clear hbf
        cases kz with
        | true =>
          clear hbx
          go_upto_region 11 with (fail)
          rw [← HWF.out]
          clear c0
          have c0 := HEF.out.eb.get (j := 0) rfl
          have c1 := HEF.out.eb.get (j := 1) rfl
          have c2 := HEF.out.eb.get (j := 2) rfl
          have c3 := HEF.out.eb.get (j := 3) rfl
          have r0 := HEF.out.rb.get (j := 0) rfl
          have r1 := HEF.out.rb.get (j := 1) rfl
          have r2 := HEF.out.rb.get (j := 2) rfl
          have r3 := HEF.out.rb.get (j := 3) rfl
          have y0 := HEF.out.rb.fz 0
          have y1 := HEF.out.rb.fz 1
          have y2 := HEF.out.rb.fz 2
          have y3 := HEF.out.rb.fz 3
          have hk9 := HEF.out.rb.set4 (.int .i64 kd) (.int .i64 nn) (.string TT) (.slice ea l.length ec)
          have f0 := hk9.get (j := 0) rfl
          have f1 := hk9.get (j := 1) rfl
          have f2 := hk9.get (j := 2) rfl
          have f3 := hk9.get (j := 3) rfl
          have HKF := hide (kept_set4 (.int .i64 kd) (.int .i64 nn) (.string TT) (.slice ea l.length ec) HEF.out.k (b := w.heap.size) (.inr (Nat.le_refl _)))
          have hkf2 := kept_set4 (.int .i64 kd) (.int .i64 nn) (.string TT) (.slice ea l.length ec) (KeptBut.refl (fun q => q = w.heap.size) wf) (b := w.heap.size) (.inl rfl)
          have HTF := hide ((HTR.out.kept hkf2 fun q hq e => by omega).mono (T := fun q => w.heap.size ≤ q) fun q hq => by omega)
          have HXF := hide (HEF.out.lx.kept hkf2 fun e => by have := HEF.out.lt; omega)
          clear hk9 hkf2 HTR HEF
          go_wp2
          refine bodyPost_ret (v := .agg #[.int .i64 kd, .int .i64 nn, .string TT, .slice ea l.length ec]) (by simp [results, Tryz.results58, go_sem, f0, f1, f2, f3, y0, y1, y2, y3]) rfl ?_
          exact ⟨⟨⟨kd, nn, TT, ea, ec, l.map ExR.tree⟩, qf, bf, by simp [ExR.agg], HTF.out, HXF.out, hqf, HFIN.out.1, HFIN.out.2⟩, HKF.out⟩
        | false =>
          have g5 : decide (5 < deep) = true := by
            rcases hbx with h | h
            · rw [h] at hkz; cases hkz
            · simpa using h
          clear hbx
          go_upto_region 11 with (fail)
          rw [← HWF.out]
          clear c0
          have c0 := HEF.out.eb.get (j := 0) rfl
          have c1 := HEF.out.eb.get (j := 1) rfl
          have c2 := HEF.out.eb.get (j := 2) rfl
          have c3 := HEF.out.eb.get (j := 3) rfl
          have r0 := HEF.out.rb.get (j := 0) rfl
          have r1 := HEF.out.rb.get (j := 1) rfl
          have r2 := HEF.out.rb.get (j := 2) rfl
          have r3 := HEF.out.rb.get (j := 3) rfl
          have y0 := HEF.out.rb.fz 0
          have y1 := HEF.out.rb.fz 1
          have y2 := HEF.out.rb.fz 2
          have y3 := HEF.out.rb.fz 3
          have hk9 := HEF.out.rb.set4 (.int .i64 kd) (.int .i64 nn) (.string TT) (.slice ea l.length ec)
          have f0 := hk9.get (j := 0) rfl
          have f1 := hk9.get (j := 1) rfl
          have f2 := hk9.get (j := 2) rfl
          have f3 := hk9.get (j := 3) rfl
          have HKF := hide (kept_set4 (.int .i64 kd) (.int .i64 nn) (.string TT) (.slice ea l.length ec) HEF.out.k (b := w.heap.size) (.inr (Nat.le_refl _)))
          have hkf2 := kept_set4 (.int .i64 kd) (.int .i64 nn) (.string TT) (.slice ea l.length ec) (KeptBut.refl (fun q => q = w.heap.size) wf) (b := w.heap.size) (.inl rfl)
          have HTF := hide ((HTR.out.kept hkf2 fun q hq e => by omega).mono (T := fun q => w.heap.size ≤ q) fun q hq => by omega)
          have HXF := hide (HEF.out.lx.kept hkf2 fun e => by have := HEF.out.lt; omega)
          clear hk9 hkf2 HTR HEF
          go_wp2
          refine bodyPost_ret (v := .agg #[.int .i64 kd, .int .i64 nn, .string TT, .slice ea l.length ec]) (by simp [results, Tryz.results58, go_sem, f0, f1, f2, f3, y0, y1, y2, y3]) rfl ?_
          exact ⟨⟨⟨kd, nn, TT, ea, ec, l.map ExR.tree⟩, qf, bf, by simp [ExR.agg], HTF.out, HXF.out, hqf, HFIN.out.1, HFIN.out.2⟩, HKF.out⟩
      have hk0 : ¬ kd = 0 := fun h => hbx (.inl h)
      have hd5 : ¬ 5 < deep := fun h => hbx (.inr h)
      have g4 : (kd == 0) = false := by simpa using hk0
      have g5 : decide (5 < deep) = false := by simpa using hd5
      have hf0 : f ≠ 0 := by omega
      clear hbx
      obtain ⟨nb, hnb⟩ : ∃ nb, decide (kd = 3 ∨ kd = 6 ∨ kd = 7) = nb := ⟨_, rfl⟩
      have HNB := hide hnb
      go_upto_region 12 with (fail)
      clear g4 g5
      go_cut [53] from 41 to 53 (fun v wd => v = .bool nb ∧ wd = wr)
      case first =>
        by_cases hks : kd = 3 ∨ kd = 6 ∨ kd = 7
        · obtain rfl : nb = true := by rw [← hnb]; exact decide_eq_true hks
          clear hnb
          clear HOX
          rcases hks with rfl | rfl | rfl
          all_goals
            go_wp2
            go_meet
            exact ⟨rfl, rfl⟩
        · obtain rfl : nb = false := by rw [← hnb]; exact decide_eq_false hks
          have t3 : (kd == 3) = false := by simp; omega
          have t6 : (kd == 6) = false := by simp; omega
          have t7 : (kd == 7) = false := by simp; omega
          clear hks hnb HOX
          go_wp2
          go_meet
          exact ⟨rfl, rfl⟩
      case rest =>
      obtain ⟨rfl, hww⟩ := hcut
      subst hww
      clear hnb
      go_upto_if 53 with (fail)
      go_cut [9, 10] from 54 to 67 (fun v9 v10 wd => Hid (∃ q2, LE w wd b S q2 false [.int .i64 kd, .int .i64 (numR kd B).1, .string ⟨#[]⟩, .slice none 0 0] ∧ restB S q2 = (numR kd B).2.1 ∧ q2 ≤ max p S.size + 2 ∧ (numR kd B).2.2 = false))
      case first =>
        cases nb with
        | false =>
          have hks : ¬ (kd = 3 ∨ kd = 6 ∨ kd = 7) := of_decide_eq_false HNB.out
          have HN : Hid (numR kd B = (0, B, false)) := by show _ = _; unfold numR; rw [if_neg hks]
          clear hks HNB HOX
          go_wp2
          go_meet
          rw [HN.out]
          exact ⟨q, HE.out, HRQ.out, by omega, rfl⟩
        | true =>
          have hks : kd = 3 ∨ kd = 6 ∨ kd = 7 := of_decide_eq_true HNB.out
          have HN : Hid (numR kd B = (atoiV (wordR B).1, (wordR B).2, !numOk (wordR B).1)) := by show _ = _; unfold numR; rw [if_pos hks]
          have HWD := hide (lword_any b S q false wc HE.out.lx hS (by omega))
          rw [HRQ.out] at HWD
          have HNA := hide fun w' => Number_any (tx (wordR B).1) w' (by
            have h1 := (wordR_len B).1
            have h2 := rest_len S q
            rw [HRQ.out] at h2
            rw [tx_size]; omega)
          rw [tx_list] at HNA
          have HRB := hide (refNum_bd (wordR B).1)
          have HOK := hide (numOk_ref (l := (wordR B).1))
          have HOV := hide fun h => numOk_refv (l := (wordR B).1) h
          obtain ⟨rn, hrn⟩ : ∃ rn, refNum (wordR B).1 = rn := ⟨_, rfl⟩
          rw [hrn] at HNA HRB HOK HOV
          clear hrn hks HNB
          have hnn := HRB.out
          obtain ⟨nn, ro⟩ := rn
          dsimp only at HNA HRB HOK HOV hnn
          go_wp2_with fail
          refine HWD.out.mono ?_
          rintro e w4 ⟨⟨rfl, q2, hx4, hr4, hq4⟩, k4⟩
          have HE4 := hide (HE.out.call hx4 k4)
          have HR4 := hide hr4
          clear hx4 hr4 k4 HWD c0 d2 z2
          go_wp2_with fail
          refine (HNA.out w4).mono ?_
          rintro e w5 ⟨rfl, rfl⟩
          have HE5 := hide (HE4.out.setE 1 (.int .i64 nn) (by simp))
          have c0 := HE4.out.eb.get (j := 0) rfl
          have c1 := HE4.out.eb.get (j := 1) rfl
          have y1 := HE4.out.eb.fz 1
          have d2 := HE5.out.lx.bad
          have z2 : (w4.setCell ⟨w.heap.size + 2, 1, none⟩ (.int .i64 nn)).frozen? ⟨b, 2, none⟩ = false := Bk.fz HE5.out.lx 2
          clear HNA
          cases ro with
          | true =>
            have HV := hide (HOV.out (by rw [← HOK.out]))
            go_wp2
            go_meet
            rw [HN.out]
            refine ⟨q2, ?_, HR4.out, by omega, by rw [← HOK.out]; rfl⟩
            dsimp only
            rw [← HV.out]
            exact HE5.out
          | false =>
            have HBD := hide (readX_bad (f := f) (s := R) (by right; rw [HOX.out, HN.out, ← HOK.out]; simp))
            obtain ⟨qf, bf, TT, ea, ec, l, HEW, hqf, hbf, HTW, HFIN⟩ : ∃ (qf : Nat) (bf : Bool) (TT : ByteArray) (ea : Option Addr) (ec : Nat) (l : List ExR), Hid (LE w (w4.setCell ⟨w.heap.size + 2, 1, none⟩ (.int .i64 nn)) b S qf false [.int .i64 kd, .int .i64 nn, .string TT, .slice ea l.length ec]) ∧ qf ≤ max p S.size + cF f ∧ bf = true ∧ Hid (∀ w', ExS (fun q => w.heap.size + 3 ≤ q) w' (f + 1) (.mk kd nn TT (l.map ExR.tree)) (encX kd nn TT ea (l.map ExR.tree).length ec)) ∧ Hid (bf = (readX f R false).2.2 ∧ (bf = false → ExprV.mk kd nn TT (l.map ExR.tree) = (readX f R false).1 ∧ restB S qf = (readX f R false).2.1)) :=
              ⟨q2, true, ⟨#[]⟩, none, 0, [], HE5, by omega, rfl, fun w' => (KidsIn.nil (base := w.heap.size + 3)).tree hkb hnn (by decide) (by decide) (fun q h => h), ⟨by rw [HBD.out], fun h => by cases h⟩⟩
            subst hbf
            have HEF := hide (HEW.out.setBad true)
            obtain ⟨wf, hwf⟩ : ∃ wf, wf = (w4.setCell ⟨w.heap.size + 2, 1, none⟩ (.int .i64 nn)).setCell ⟨b, 2, none⟩ (.bool true) := ⟨_, rfl⟩
            rw [← hwf] at HEF
            have HWF := hide hwf
            have HTR := hide (HTW.out wf)
            clear hwf HBD HOX HTW HEW
            obtain ⟨bf, hbf⟩ : ∃ bf, bf = true := ⟨_, rfl⟩
            rw [← hbf] at HEF HFIN
            clear hbf HN HRB HOK HOV hnn HE4 HE5
            go_upto_region 17 with (fail)
            rw [← HWF.out]
            clear c0 c1 y1 d2 z2
            have c0 := HEF.out.eb.get (j := 0) rfl
            have c1 := HEF.out.eb.get (j := 1) rfl
            have c2 := HEF.out.eb.get (j := 2) rfl
            have c3 := HEF.out.eb.get (j := 3) rfl
            have r0 := HEF.out.rb.get (j := 0) rfl
            have r1 := HEF.out.rb.get (j := 1) rfl
            have r2 := HEF.out.rb.get (j := 2) rfl
            have r3 := HEF.out.rb.get (j := 3) rfl
            have y0 := HEF.out.rb.fz 0
            have y1 := HEF.out.rb.fz 1
            have y2 := HEF.out.rb.fz 2
            have y3 := HEF.out.rb.fz 3
            have hk9 := HEF.out.rb.set4 (.int .i64 kd) (.int .i64 nn) (.string TT) (.slice ea l.length ec)
            have f0 := hk9.get (j := 0) rfl
            have f1 := hk9.get (j := 1) rfl
            have f2 := hk9.get (j := 2) rfl
            have f3 := hk9.get (j := 3) rfl
            have HKF := hide (kept_set4 (.int .i64 kd) (.int .i64 nn) (.string TT) (.slice ea l.length ec) HEF.out.k (b := w.heap.size) (.inr (Nat.le_refl _)))
            have hkf2 := kept_set4 (.int .i64 kd) (.int .i64 nn) (.string TT) (.slice ea l.length ec) (KeptBut.refl (fun q => q = w.heap.size) wf) (b := w.heap.size) (.inl rfl)
            have HTF := hide ((HTR.out.kept hkf2 fun q hq e => by omega).mono (T := fun q => w.heap.size ≤ q) fun q hq => by omega)
            have HXF := hide (HEF.out.lx.kept hkf2 fun e => by have := HEF.out.lt; omega)
            clear hk9 hkf2 HTR HEF
            go_wp2
            refine bodyPost_ret (v := .agg #[.int .i64 kd, .int .i64 nn, .string TT, .slice ea l.length ec]) (by simp [results, Tryz.results58, go_sem, f0, f1, f2, f3, y0, y1, y2, y3]) rfl ?_
            exact ⟨⟨⟨kd, nn, TT, ea, ec, l.map ExR.tree⟩, qf, bf, by simp [ExR.agg], HTF.out, HXF.out, hqf, HFIN.out.1, HFIN.out.2⟩, HKF.out⟩
      case rest =>
      obtain ⟨q2, HE2, hr2, hq2, hn2⟩ := hcut.out
      obtain ⟨wd, rfl⟩ : ∃ wd, wd = wc := ⟨_, rfl⟩
      have hnn := numR_bd kd B
      rw [hn2] at HOX
      obtain ⟨NQ, hNQ⟩ : ∃ NQ, numR kd B = NQ := ⟨_, rfl⟩
      rw [hNQ] at HOX HE2 hr2 hnn
      have HE := hide HE2
      have HR2 := hide hr2
      clear hNQ hn2 hr2 HE2 hcut c0 d2 z2 HNB
      obtain ⟨nn, B2, nb2⟩ := NQ
      dsimp only at HOX HE HR2 hnn
      have c0 := HE.out.eb.get (j := 0) rfl
      have hl2 : B2.length ≤ 100000 := by have := rest_len S q2; rw [HR2.out] at this; omega
      obtain ⟨fb4, hfb4⟩ : ∃ fb, (kd == 4) = fb := ⟨_, rfl⟩
      go_upto_if 70 with (fail)
      have HFB := hide hfb4
      clear hfb4
      go_cut [] from 71 to 73 (fun wd => Hid (∃ (q3 : Nat) (b3 : Bool) (t3 : List UInt8), LE w wd b S q3 b3 [.int .i64 kd, .int .i64 nn, .string (tx t3), .slice none 0 0] ∧ q3 ≤ max p S.size + 3 ∧ b3 = (txtR kd B2).2.2 ∧ (b3 = false → restB S q3 = (txtR kd B2).2.1 ∧ t3 = (txtR kd B2).1) ∧ t3.length ≤ 100000))
      case first =>
        cases fb4 with
        | false =>
          have hk4 : ¬ kd = 4 := by have := HFB.out; simpa using this
          have HT : Hid (txtR kd B2 = ([], B2, false)) := by show _ = _; unfold txtR; rw [if_neg hk4]
          clear hk4 HFB HOX
          go_wp2
          go_meet
          rw [HT.out]
          exact ⟨q2, false, [], HE.out, by omega, rfl, fun _ => ⟨HR2.out, rfl⟩, by simp⟩
        | true =>
          have hk4 : kd = 4 := by have := HFB.out; simpa using this
          have HT : Hid (txtR kd B2 = quotedR B2) := by show _ = _; unfold txtR; rw [if_pos hk4]
          have HQ := hide (lquoted_any b S q2 false wd HE.out.lx hS (by omega))
          rw [HR2.out] at HQ
          clear hk4 HFB HOX
          go_wp2_with fail
          refine HQ.out.mono ?_
          rintro e w4 ⟨⟨t3, rfl, hl3, q3, hx4, hq4, hr4⟩, k4⟩
          have HE4 := hide (HE.out.call hx4 k4)
          have HR4 := hide hr4
          have c2 := HE4.out.eb.get (j := 2) rfl
          have y2 := HE4.out.eb.fz 2
          have HE5 := hide (HE4.out.setE 2 (.string (tx t3)) (by simp))
          clear hx4 hr4 k4 HQ c0
          go_wp2
          go_meet
          rw [HT.out]
          exact ⟨q3, _, t3, HE5.out, by omega, by simp, fun h => by have h1 := HR4.out (by simpa using h); exact ⟨h1.2, h1.1⟩, by omega⟩
      case rest =>
      obtain ⟨q3, b3, t3, HE2, hq3', hb3, hr3, hl3⟩ := hcut.out
      obtain ⟨we, rfl⟩ : ∃ we, we = wc := ⟨_, rfl⟩
      have HR3 := hide hr3
      replace HE := hide HE2
      clear hcut HE2 hr3 c0 HR2 HFB
      have HOB : Hid ((ownX R).2.2.2.2 = b3) := by show _ = _; rw [HOX.out, hb3]; simp [hk0]
      have HOK : Hid (b3 = false → readX f R false = (.mk kd nn (tx t3) (readKids (fun s => readX (f - 1) s false) (manyK kd) (restB S q3) false).1, (readKids (fun s => readX (f - 1) s false) (manyK kd) (restB S q3) false).2)) := fun h => by
        rw [readX_ok hf0 (by rw [HOB.out]; exact h)]
        obtain ⟨h1, h2⟩ := HR3.out h
        rw [HOX.out, h1, h2]
      have HBADX : Hid (b3 = true → (readX f R false).2.2 = true) := fun h => readX_bad (.inr (by rw [HOB.out]; exact h))
      clear HOX HR3 HOB hb3
      have c0 := HE.out.eb.get (j := 0) rfl
      go_upto_block 2 with (fail)
      go_cut [11] from 76 to 81 (fun mv wd => mv = .int .i64 (manyK kd) ∧ wd = we)
      case first =>
        have hk11 : kd = 1 ∨ kd = 2 ∨ kd = 3 ∨ kd = 4 ∨ kd = 5 ∨ kd = 6 ∨ kd = 7 ∨ kd = 8 ∨ kd = 9 ∨ kd = 10 := by omega
        clear HOK HBADX hkr hkb hk0
        rcases hk11 with rfl | rfl | rfl | rfl | rfl | rfl | rfl | rfl | rfl | rfl
        all_goals
          go_wp2
          go_meet
          exact ⟨rfl, rfl⟩
      case rest =>
      obtain ⟨rfl, hww⟩ := hcut
      subst hww
      clear c0
      obtain ⟨TT, hTT⟩ : ∃ TT, tx t3 = TT := ⟨_, rfl⟩
      have hts : TT.size ≤ maxLen := by rw [← hTT, tx_size]; unfold maxLen; omega
      rw [hTT] at HE HOK
      clear hTT hl3
      have hmk : manyK kd ≤ 2 := by unfold manyK; split; omega; split <;> omega
      obtain ⟨MK, hMK⟩ : ∃ MK, manyK kd = MK := ⟨_, rfl⟩
      rw [hMK] at HOK hmk ⊢
      clear hMK
      obtain ⟨f', rfl⟩ : ∃ f', f = f' + 1 := ⟨f - 1, by omega⟩
      obtain ⟨C, hC⟩ : ∃ C, cF f' = C := ⟨_, rfl⟩
      have hcc : cF (f' + 1) = 3 + 2 * C := by rw [cF, hC]
      have HC := hide hC
      have hcl := (cF_le f' (by omega))
      rw [hC] at hcl
      rw [hcc] at hp hcf1 hcf2
      clear hC hf0
      have HCC := hide hcc
      clear hcc
      rw [Nat.add_sub_cancel] at HOK
      obtain ⟨i0, hi0, hz0, hz1', hz2⟩ := info_parts infoExprR
      have hdd : IntKind.i64.wrap (deep + 1) = deep + 1 := IntWalk.i64_in _ (by omega)
      have HKI : Hid (KidsIn wc (w.heap.size + 3) (f' + 1) (.slice none 0 0) []) := KidsIn.nil
      obtain ⟨wz, rfl⟩ : ∃ wz, wz = wc := ⟨_, rfl⟩
      go_upto_region 28 with (fail)
      go_wp2
      go_loopw [12] (fun iv wr => ∃ (j : Nat) (l : List ExR) (q : Nat) (bj : Bool) (ea : Option Addr) (ec : Nat), j ≤ MK ∧ iv = .int .i64 j ∧ l.length ≤ j ∧ q ≤ max p S.size + 3 + j * C ∧ Hid (LE w wr b S q bj [.int .i64 kd, .int .i64 nn, .string TT, .slice ea l.length ec]) ∧ Hid (KidsIn wr (w.heap.size + 3) (f' + 1) (.slice ea l.length ec) l) ∧ Hid (bj = true → (readX (f' + 1) R false).2.2 = true) ∧ Hid (bj = false → readX (f' + 1) R false = (.mk kd nn TT (l.map ExR.tree ++ (readKids (fun s => readX f' s false) (MK - j) (restB S q) false).1), (readKids (fun s => readX f' s false) (MK - j) (restB S q) false).2))) (fun iv _ => MK - (intOf iv).toNat)
      case atStart => exact ⟨0, [], q3, b3, none, 0, by omega, rfl, by simp, by omega, HE, HKI, HBADX, (fun h => by rw [HOK.out h]; simp)⟩
      case round =>
        clear HE HKI HOK HBADX
        obtain ⟨j, l, q, bj, ea, ec, hj, rfl, hlj, hqj, HE, HKI, HBX, HOK⟩ := hrel
        have hjc : j * C ≤ 2 * C := Nat.mul_le_mul_right _ (by omega)
        have d2 := HE.out.lx.bad
        by_cases hlt : j < MK
        · have g1 : decide ((j : Int) < (MK : Int)) = true := by simp; omega
          cases bj with
          | true =>
            have HTR := hide (HKI.out.tree (k := kd) (n := nn) (t := TT) (S := fun q => w.heap.size + 3 ≤ q) hkb hnn hts (by unfold maxLen; omega) (fun q h => h))
            have HFIN : Hid (true = (readX (f' + 1) R false).2.2 ∧ (true = false → ExprV.mk kd nn TT (l.map ExR.tree) = (readX (f' + 1) R false).1 ∧ restB S q = (readX (f' + 1) R false).2.1)) := ⟨(HBX.out rfl).symm, fun h => by cases h⟩
            obtain ⟨bf, hbf⟩ : ∃ bf, bf = true := ⟨_, rfl⟩
            rw [← hbf] at HFIN
            have HEF := HE
            rw [← hbf] at HEF
            have hqf : q ≤ max p S.size + cF (f' + 1) := by rw [HCC.out]; omega
            obtain ⟨qf, hqq⟩ : ∃ qf, qf = q := ⟨_, rfl⟩
            rw [← hqq] at hqf HEF HFIN
            obtain ⟨wf, rfl⟩ : ∃ wf, wf = wr := ⟨_, rfl⟩
            clear HE HBX HOK hqq hbf
            go_upto_region 33 with (fail)
            clear d2
            have c0 := HEF.out.eb.get (j := 0) rfl
            have c1 := HEF.out.eb.get (j := 1) rfl
            have c2 := HEF.out.eb.get (j := 2) rfl
            have c3 := HEF.out.eb.get (j := 3) rfl
            have r0 := HEF.out.rb.get (j := 0) rfl
            have r1 := HEF.out.rb.get (j := 1) rfl
            have r2 := HEF.out.rb.get (j := 2) rfl
            have r3 := HEF.out.rb.get (j := 3) rfl
            have y0 := HEF.out.rb.fz 0
            have y1 := HEF.out.rb.fz 1
            have y2 := HEF.out.rb.fz 2
            have y3 := HEF.out.rb.fz 3
            have hk9 := HEF.out.rb.set4 (.int .i64 kd) (.int .i64 nn) (.string TT) (.slice ea l.length ec)
            have f0 := hk9.get (j := 0) rfl
            have f1 := hk9.get (j := 1) rfl
            have f2 := hk9.get (j := 2) rfl
            have f3 := hk9.get (j := 3) rfl
            have HKF := hide (kept_set4 (.int .i64 kd) (.int .i64 nn) (.string TT) (.slice ea l.length ec) HEF.out.k (b := w.heap.size) (.inr (Nat.le_refl _)))
            have hkf2 := kept_set4 (.int .i64 kd) (.int .i64 nn) (.string TT) (.slice ea l.length ec) (KeptBut.refl (fun q => q = w.heap.size) wf) (b := w.heap.size) (.inl rfl)
            have HTF := hide ((HTR.out.kept hkf2 fun q hq e => by omega).mono (T := fun q => w.heap.size ≤ q) fun q hq => by omega)
            have HXF := hide (HEF.out.lx.kept hkf2 fun e => by have := HEF.out.lt; omega)
            clear hk9 hkf2 HTR HEF
            go_wp2
            refine bodyPost_ret (v := .agg #[.int .i64 kd, .int .i64 nn, .string TT, .slice ea l.length ec]) (by simp [results, Tryz.results58, go_sem, f0, f1, f2, f3, y0, y1, y2, y3]) rfl ?_
            exact ⟨⟨⟨kd, nn, TT, ea, ec, l.map ExR.tree⟩, qf, bf, by simp [ExR.agg], HTF.out, HXF.out, hqf, HFIN.out.1, HFIN.out.2⟩, HKF.out⟩
          | false =>
            have hjc1 : j * C ≤ 1 * C := Nat.mul_le_mul_right _ (by omega)
            have hqm : max q S.size + C ≤ 500000 := by omega
            have HCL := hide (IH.out f' rfl (deep + 1) S q wr (by omega) HE.out.lx hS (by rw [HC.out]; exact hqm))
            unfold LRX at HCL
            rw [HC.out] at HCL
            have HKN : Hid (readX (f' + 1) R false = (.mk kd nn TT (l.map ExR.tree ++ (readX f' (restB S q) false).1 :: (readKids (fun s => readX f' s false) (MK - (j + 1)) (readX f' (restB S q) false).2.1 (readX f' (restB S q) false).2.2).1), (readKids (fun s => readX f' s false) (MK - (j + 1)) (readX f' (restB S q) false).2.1 (readX f' (restB S q) false).2.2).2)) := by
              show _ = _
              rw [HOK.out rfl, show MK - j = (MK - (j + 1)) + 1 by omega, readKids, if_neg (by decide)]
            generalize readX f' (restB S q) false = px at *
            clear HBX HOK
            have HNE : Hid (b ≠ w.heap.size + 2 ∧ b < w.heap.size + 3) := by have := HE.out.lt; show _ ∧ _; omega
            have HON : Hid (∀ k, (Value.slice ea l.length ec).ownBlock = some k → ¬ k = b) := fun k e h => by have h1 := (HKI.out.own.lt k e).1; have h2 := HNE.out.2; omega
            have HOE : Hid (∀ k, (Value.slice ea l.length ec).ownBlock = some k → w.heap.size + 3 ≤ k) := fun k e => (HKI.out.own.lt k e).1
            have HL1 : Hid (∀ r : ExR, (l ++ [r]).length = l.length + 1) := fun r => by simp
            have hfl : l.length + 1 ≤ 1000000000 := by omega
            have HFL := hide hfl
            clear hfl
            go_wp2_with fail
            refine HCL.out.mono ?_
            rintro e w1 ⟨⟨⟨rk, rn, rs, rao, rcap, ra⟩, q', bd, rfl, hrt, hx1, hq1, hbd, hok⟩, k1⟩
            dsimp only [ExR.agg]
            have HRT := hide hrt
            have HX1 := hide hx1
            have HBD := hide hbd
            have HRO := hide hok
            have HK1 := hide k1
            have HQ1 := hide hq1
            clear hrt hx1 hbd hok k1 hq1 HCL d2
            go_upto_region 32 with (fail)
            obtain ⟨W5, hW5⟩ : ∃ W, W = w1.alloc (.cells #[.int .i64 rk, .int .i64 rn, .string rs, .slice rao ra.length rcap] 67) := ⟨_, rfl⟩
            have hb5 : Below w1.heap.size w1 W5 := by rw [hW5]; exact (Below.refl _ _).alloc (Nat.le_refl _) _
            have hk5 : Bk W5 w1.heap.size [.int .i64 rk, .int .i64 rn, .string rs, .slice rao ra.length rcap] := by rw [hW5]; exact Bk.new rfl
            rw [← hW5]
            have m0 := hk5.get (j := 0) rfl
            have m1 := hk5.get (j := 1) rfl
            have m2 := hk5.get (j := 2) rfl
            have m3 := hk5.get (j := 3) rfl
            have HE5 := hide ((HE.out.call HX1.out HK1.out).later hb5)
            have HRT5 := hide (HRT.out.later hb5)
            have HK5 := hide (HK1.out.trans (KeptBut.of_below hb5 (Nat.le_refl _)))
            have c3 := HE5.out.eb.get (j := 3) rfl
            clear hW5 hb5 hk5 HX1 HK1 HRT
            go_wp2_with (at_builtin; refine wpList_append_one (enc := ExR.cells) ExR.cells_len _ _ 65 i0 _ rfl rfl Tryz.underlying65 hi0 hz0 hz1' hz2 rfl (by decide) (by decide) (KeptBut.own (HK5.out.alloc _) HKI.out.own HON.out) (Below.refl _ _) (by have h1 := HE.out.sz; have h2 := HK5.out.size; simp; omega) HFL.out rfl (⟨rk, rn, rs, rao, rcap, ra⟩ : ExR) ⟨W5.heap.size, 0, none⟩ 1 rfl (news_cells W5 _ rfl) (one_exr _) ?_; intro v' w2 ho hb1 hgr hat; have HE6 := hide ((HE5.out.later ((Below.refl _ _).alloc (Nat.le_refl _) _)).grown hgr HOE.out); have HE7 := hide (HE6.out.setE 3 v' (by simp)); have HKI5 := hide (HKI.out.put (eb := w.heap.size + 2) (k := 3) (u := v') HNE.out.2 (Nat.lt_succ_self _) HE.out.sz (HK5.out.alloc _) (HRT5.out.later ((Below.refl _ _).alloc (Nat.le_refl _) _)) ho hgr hat); have s6 := HE6.out.eb.get (j := 3) rfl; have y6 := HE6.out.eb.fz 3; obtain ⟨na, nc, hv'⟩ := id ho.1; subst hv'; rw [HL1.out] at HE7 HKI5; clear ho hb1 hgr hat c3 m0 m1 m2 m3)
            go_wp2
            go_roundw
            case rel =>
              refine ⟨j + 1, l ++ [⟨rk, rn, rs, rao, rcap, ra⟩], q', bd, _, _, by omega, by go_num, by rw [HL1.out]; omega, ?_, (by rw [HL1.out]; exact HE7), (by rw [HL1.out]; exact HKI5), ?_, ?_⟩
              · have h1 := HQ1.out
                rw [Nat.succ_mul]
                omega
              · intro h
                rw [HKN.out, ← HBD.out, h, readKids_bad]
              · intro h
                obtain ⟨h1, h2⟩ := HRO.out h
                rw [HKN.out, ← HBD.out, h, ← h2, ← h1]
                simp
            case measure => (simp [intOf]; try omega)
        · have HTR := hide (HKI.out.tree (k := kd) (n := nn) (t := TT) (S := fun q => w.heap.size + 3 ≤ q) hkb hnn hts (by unfold maxLen; omega) (fun q h => h))
          obtain rfl : j = MK := by omega
          have g1 : decide ((j : Int) < (j : Int)) = false := by simp
          have HFIN : Hid (bj = (readX (f' + 1) R false).2.2 ∧ (bj = false → ExprV.mk kd nn TT (l.map ExR.tree) = (readX (f' + 1) R false).1 ∧ restB S q = (readX (f' + 1) R false).2.1)) := by
            cases bj with
            | true => exact ⟨(HBX.out rfl).symm, fun h => by cases h⟩
            | false =>
              have h1 := HOK.out rfl
              rw [Nat.sub_self, readKids, List.append_nil] at h1
              rw [h1]
              exact ⟨rfl, fun _ => ⟨rfl, rfl⟩⟩
          have hqf : q ≤ max p S.size + cF (f' + 1) := by rw [HCC.out]; omega
          have HEF := HE
          obtain ⟨bf, rfl⟩ : ∃ bf, bf = bj := ⟨_, rfl⟩
          obtain ⟨qf, rfl⟩ : ∃ qf, qf = q := ⟨_, rfl⟩
          obtain ⟨wf, rfl⟩ : ∃ wf, wf = wr := ⟨_, rfl⟩
          clear HE HBX HOK
          go_upto_region 33 with (fail)
          clear d2
          have c0 := HEF.out.eb.get (j := 0) rfl
          have c1 := HEF.out.eb.get (j := 1) rfl
          have c2 := HEF.out.eb.get (j := 2) rfl
          have c3 := HEF.out.eb.get (j := 3) rfl
          have r0 := HEF.out.rb.get (j := 0) rfl
          have r1 := HEF.out.rb.get (j := 1) rfl
          have r2 := HEF.out.rb.get (j := 2) rfl
          have r3 := HEF.out.rb.get (j := 3) rfl
          have y0 := HEF.out.rb.fz 0
          have y1 := HEF.out.rb.fz 1
          have y2 := HEF.out.rb.fz 2
          have y3 := HEF.out.rb.fz 3
          have hk9 := HEF.out.rb.set4 (.int .i64 kd) (.int .i64 nn) (.string TT) (.slice ea l.length ec)
          have f0 := hk9.get (j := 0) rfl
          have f1 := hk9.get (j := 1) rfl
          have f2 := hk9.get (j := 2) rfl
          have f3 := hk9.get (j := 3) rfl
          have HKF := hide (kept_set4 (.int .i64 kd) (.int .i64 nn) (.string TT) (.slice ea l.length ec) HEF.out.k (b := w.heap.size) (.inr (Nat.le_refl _)))
          have hkf2 := kept_set4 (.int .i64 kd) (.int .i64 nn) (.string TT) (.slice ea l.length ec) (KeptBut.refl (fun q => q = w.heap.size) wf) (b := w.heap.size) (.inl rfl)
          have HTF := hide ((HTR.out.kept hkf2 fun q hq e => by omega).mono (T := fun q => w.heap.size ≤ q) fun q hq => by omega)
          have HXF := hide (HEF.out.lx.kept hkf2 fun e => by have := HEF.out.lt; omega)
          clear hk9 hkf2 HTR HEF
          go_wp2
          refine bodyPost_ret (v := .agg #[.int .i64 kd, .int .i64 nn, .string TT, .slice ea l.length ec]) (by simp [results, Tryz.results58, go_sem, f0, f1, f2, f3, y0, y1, y2, y3]) rfl ?_
          exact ⟨⟨⟨kd, nn, TT, ea, ec, l.map ExR.tree⟩, qf, bf, by simp [ExR.agg], HTF.out, HXF.out, hqf, HFIN.out.1, HFIN.out.2⟩, HKF.out⟩
theorem lexpr_any (b f : Nat) : ∀ (deep : Int) (S : ByteArray) (p : Nat) (w : World), deep + f = 6 → f ≤ 5 → Lx w b S p false → S.size ≤ 100000 → max p S.size + cF f ≤ 500000 →
    Calls Tryz.prog 58 #[.pointer (some ⟨b, 0, none⟩), .int .i64 deep] w (LRX b f S p w) := by
  induction f with
  | zero => exact fun deep S p w hd hf hx hS hp => lexpr_step b 0 (fun f' h => by omega) deep hd S p w hf hx hS hp
  | succ f ih => exact fun deep S p w hd hf hx hS hp => lexpr_step b (f + 1) (fun f' h => by cases h; exact fun deep S p w hd hx hS hp => ih deep S p w hd (by omega) hx hS hp) deep hd S p w hf hx hS hp
end Go.Proofs.YtgeedjlbajmdkaaGreatDoor
