/- A record's words: expr.Words and the reference; lists of texts. -/
import Derived.Test.YtgeedjlbajmdkaaGreatDoorRows
import Derived.Test.YtgeedjlbajmdkaaGreatDoorErr
import Derived.ProofKit
import Derived.OpenShut
import Derived.ShutString
import Derived.ChangeOld
import Derived.Deep.Slices
import Derived.Lib.Split
import Derived.Lib.IndexMore
import Derived.Test.YtgeedjlbajmdkaaGreatDoorFold
import Derived.Laws.AppendOwnNone
import Derived.Test.YtgeedjlbajmdkaaGreatDoorShelf
import Derived.Test.YtgeedjlbajmdkaaGreatDoorSort
import Derived.Test.YtgeedjlbajmdkaaGreatDoorPairs
set_option linter.unusedSimpArgs false
set_option linter.unusedVariables false
/- From the form's reading of an argument to lists: slices of flat elements. -/
namespace Go.Proofs.YtgeedjlbajmdkaaGreatDoor
open Go.RowKit Go.ChangeShapes Go.WideShapes Go.ChangeAt

theorem add_at (b off i : Nat) (sp) (h : sp = none) : (⟨b, off, sp⟩ : Addr).add i = ⟨b, off + i, none⟩ := by
  subst h; unfold Addr.add; split <;> simp_all

theorem cells_cell {w : World} {base : Nat} {a : Addr} {n : Nat} {cs : List Value} (h : w.cells? base a n = some cs) : cs.length = n ∧ ∀ (j : Nat) v, cs[j]? = some v → w.cell? (a.add j) = some v := by
  obtain ⟨_, hl, hc⟩ := World.cells?_some h
  refine ⟨hl, fun j v hj => ?_⟩
  have hlt : j < n := by
    rw [← hl]; exact (List.getElem?_eq_some_iff.1 hj).1
  rw [hc j hlt]; exact hj

theorem open_sl {H : Type} {enc0 : TypeId × Value → H} {P : Program} {w : World} {t e : TypeId} {sz : Nat} {α : Type} [Inhabited α] {enc : α → List Value} {ok : α → Prop}
    (ht : P.underlying t = some (.slice e)) (hsz : P.cellsOf e = sz) (h0 : 0 < sz)
    (hel : ∀ fuel cs x, DataW.trod enc0 P w 0 (fun _ => true) true fuel e cs = some x → ∃ a, cs = enc a ∧ ok a)
    {v : Value} {d : DataW H} {ps : List MemPlace} (hv : ∃ a len cap, v = .slice a len cap) (h : DataW.Trod enc0 P w 0 (fun _ => true) true t v d ps) :
    ∃ ao cap, ∃ l : List α, v = .slice ao l.length cap ∧ Sl sz enc w ao l ∧ l.length ≤ maxLen ∧ ∀ x ∈ l, ok x := by
  obtain ⟨a, len, cap, rfl⟩ := hv
  obtain ⟨fuel, hf⟩ := h
  rcases Deep.open_slice ht hf with ⟨hcs, _⟩ | ⟨a', len', cap', m, n, D, Pl, hcs, _, hl, hm, hmm, _, hall⟩
  · simp [Value.cells] at hcs
    obtain ⟨rfl, rfl, rfl⟩ := hcs
    exact ⟨none, 0, [], rfl, Sl.nil, by simp, by simp⟩
  · simp [Value.cells] at hcs
    obtain ⟨rfl, rfl, rfl⟩ := hcs
    have hm' : len ≤ m := by rw [hmm]; split <;> omega
    obtain ⟨f, hfx⟩ := Deep.choose_lt (n := len) (p := fun i (x : α) => w.cells? 0 (a'.add (i * sz)) sz = some (enc x) ∧ ok x) (fun i hi => by
      obtain ⟨cs', h1, h2⟩ := hall i (by omega)
      obtain ⟨x, hx, hok⟩ := hel _ _ _ h2
      rw [hsz] at h1
      exact ⟨x, by rw [← hx]; exact h1, hok⟩)
    refine ⟨some a', cap, (List.range len).map f, by simp, ?_, by simp; omega, fun x hx => ?_⟩
    · intro hpos
      have hpos' : 0 < len := by simpa using hpos
      obtain ⟨b, off, sp⟩ := a'
      obtain ⟨c0, c1⟩ := cells_cell (hfx 0 hpos').1
      obtain ⟨v0, hv0⟩ : ∃ v, (enc (f 0))[0]? = some v := by
        rw [List.getElem?_eq_getElem (by omega)]; exact ⟨_, rfl⟩
      have hc0 := c1 0 v0 hv0
      have hsp : sp = none := by
        have := World.cell?_spot hc0
        simpa [Addr.add] using this
      subst hsp
      refine ⟨b, off, rfl, ?_, fun i x j v hi hj => ?_⟩
      · have := World.block_lt_of_cell? w _ hc0
        rw [add_at _ _ _ _ rfl, add_at _ _ _ _ rfl] at this
        exact this
      · have hi' : i < len := by
          have := (List.getElem?_eq_some_iff.1 hi).1
          simpa using this
        have hx : f i = x := by
          rw [List.getElem?_map, List.getElem?_range hi'] at hi
          simpa using hi
        subst hx
        have := (cells_cell (hfx i hi').1).2 j v hj
        rw [add_at _ _ _ _ rfl, add_at _ _ _ _ rfl] at this
        exact this
    · obtain ⟨i, hi, rfl⟩ := List.mem_map.1 hx
      exact (hfx i (by simpa using hi)).2

theorem own : ownKnob Tryz.prog.godebug = none := by kernel_rfl
theorem laidOut : laidOutB Tryz.prog = true := by kernel_rfl
theorem cells_int : Tryz.prog.cellsOf 3 = 1 := by kernel_rfl
theorem el_int {H : Type} {enc0 : TypeId × Value → H} {w : World} (fuel : Nat) (cs : List Value) (x) (h : DataW.trod enc0 Tryz.prog w 0 (fun _ => true) true fuel 3 cs = some x) : ∃ a : Int, cs = encInt a ∧ (-9223372036854775808 ≤ a ∧ a ≤ 9223372036854775807) := by
  obtain ⟨n, rfl, _, hw⟩ := DataW.trod_int Tryz.underlying3 h
  exact ⟨n, rfl, by have := bounds_i64 hw; omega⟩
theorem cells_bool : Tryz.prog.cellsOf 4 = 1 := by kernel_rfl
theorem el_bool {H : Type} {enc0 : TypeId × Value → H} {w : World} (fuel : Nat) (cs : List Value) (x) (h : DataW.trod enc0 Tryz.prog w 0 (fun _ => true) true fuel 4 cs = some x) : ∃ a : Bool, cs = encBool a ∧ True := by
  obtain ⟨n, rfl, _⟩ := DataW.trod_bool Tryz.underlying4 h
  exact ⟨n, rfl, trivial⟩
theorem cells_string : Tryz.prog.cellsOf 9 = 1 := by kernel_rfl
theorem cells_pair : Tryz.prog.cellsOf 101 = 2 := by kernel_rfl
set_option maxRecDepth 100000 in
theorem el_pair {H : Type} {enc0 : TypeId × Value → H} {w : World} (fuel : Nat) (cs : List Value) (x) (h : DataW.trod enc0 Tryz.prog w 0 (fun _ => true) true fuel 101 cs = some x) : ∃ a : Pr, cs = encP a ∧ (a.1.size ≤ maxLen ∧ -9223372036854775808 ≤ a.2 ∧ a.2 ≤ 9223372036854775807) := by
  obtain ⟨y0, y1, n, _, hl, h0, h1⟩ := trod_struct2 Tryz.underlying101 h
  obtain ⟨a, e0, _, hs⟩ := DataW.trod_string Tryz.underlying9 h0
  obtain ⟨b, e1, _, hw⟩ := DataW.trod_int Tryz.underlying3 h1
  rw [cells_pair] at hl
  dsimp only at e0 e1
  rw [cells_int] at e1
  rw [cells_string] at e0
  match cs, hl with
  | [c0, c1], _ =>
    simp at e0 e1
    exact ⟨(a, b), by rw [e0, e1]; rfl, hs, by have := bounds_i64 hw; omega⟩
end Go.Proofs.YtgeedjlbajmdkaaGreatDoor
/- Plain laws of texts: what stands ahead of a byte, what between such bytes; words. -/
namespace Go.Proofs.YtgeedjlbajmdkaaGreatDoor
open Go.RowKit

/-- a text of these bytes -/
def tx (l : List UInt8) : ByteArray := ⟨l.toArray⟩
theorem tx_list (l : List UInt8) : (tx l).data.toList = l := by simp [tx]
theorem tx_of (s : ByteArray) : tx s.data.toList = s := by cases s; simp [tx]
theorem tx_inj {a b : List UInt8} (h : tx a = tx b) : a = b := by rw [← tx_list a, h, tx_list]
theorem tx_size (l : List UInt8) : (tx l).size = l.length := by simp [tx, ByteArray.size]

/-- what stands ahead of the first c, and behind it -/
def cutAt (c : UInt8) : List UInt8 → List UInt8 × List UInt8 × Bool
  | [] => ([], [], false)
  | b :: l => if b = c then ([], l, true) else (b :: (cutAt c l).1, (cutAt c l).2.1, (cutAt c l).2.2)
/-- what stands between -/
def splitAt (c : UInt8) : List UInt8 → List (List UInt8)
  | [] => [[]]
  | b :: l => if b = c then [] :: splitAt c l else match splitAt c l with
    | h :: t => (b :: h) :: t
    | [] => [[b]]
theorem splitAt_ne (c : UInt8) (l : List UInt8) : splitAt c l ≠ [] := by
  cases l with
  | nil => simp [splitAt]
  | cons b l =>
    unfold splitAt
    split
    · simp
    · split <;> simp
theorem occ_one (c : UInt8) (l : List UInt8) (j : Nat) : Lib.occAt l [c] j = (l[j]? == some c) := by
  unfold Lib.occAt
  cases h : l.drop j with
  | nil =>
    have hl : l.length ≤ j := by simpa using h
    rw [List.getElem?_eq_none hl]; simp
  | cons b t =>
    have hb : l[j]? = some b := by
      have := congrArg List.head? h
      rw [List.head?_drop] at this
      simpa using this
    rw [hb]
    by_cases e : c = b
    · subst e; simp
    · have e1 : (c == b) = false := by simpa using e
      have e2 : (b == c) = false := by simp; exact fun h => e h.symm
      simp [List.isPrefixOf, e1, e2]
theorem index_no {c : UInt8} {l : List UInt8} (h : c ∉ l) : Lib.index l [c] = -1 := by
  refine Lib.index_none fun j _ => ?_
  rw [occ_one]
  cases hj : l[j]? with
  | none => rfl
  | some b =>
    have : b ≠ c := fun e => h (e ▸ List.mem_of_getElem? hj)
    simp [this]
theorem index_yes {c : UInt8} {A B : List UInt8} (h : c ∉ A) : Lib.index (A ++ c :: B) [c] = A.length := by
  refine Lib.index_first (by simp) ?_ fun j hj => ?_
  · rw [occ_one, List.getElem?_append_right (Nat.le_refl _)]; simp
  · rw [occ_one, List.getElem?_append_left hj]
    have hx : A[j]? = some A[j] := List.getElem?_eq_getElem hj
    rw [hx]
    have : A[j] ≠ c := fun e => h (e ▸ List.getElem_mem hj)
    simp [this]
theorem first_of (c : UInt8) : ∀ (l : List UInt8), c ∉ l ∨ ∃ A B, l = A ++ c :: B ∧ c ∉ A
  | [] => .inl (by simp)
  | b :: l => by
    by_cases e : b = c
    · subst e; exact .inr ⟨[], l, rfl, by simp⟩
    · rcases first_of c l with h | ⟨A, B, h, hA⟩
      · refine .inl ?_
        rw [List.mem_cons]
        rintro (h2 | h2)
        · exact e h2.symm
        · exact h h2
      · refine .inr ⟨b :: A, B, by rw [h]; rfl, ?_⟩
        rw [List.mem_cons]
        rintro (h2 | h2)
        · exact e h2.symm
        · exact hA h2
theorem cutAt_no {c : UInt8} : ∀ {l : List UInt8}, c ∉ l → cutAt c l = (l, [], false)
  | [], _ => rfl
  | b :: l, h => by
    rw [List.mem_cons, not_or] at h
    unfold cutAt
    rw [if_neg (fun e => h.1 e.symm), cutAt_no h.2]
theorem cutAt_yes {c : UInt8} : ∀ {A B : List UInt8}, c ∉ A → cutAt c (A ++ c :: B) = (A, B, true)
  | [], B, _ => by simp [cutAt]
  | a :: A, B, h => by
    rw [List.mem_cons, not_or] at h
    rw [List.cons_append]
    unfold cutAt
    rw [if_neg (fun e => h.1 e.symm), cutAt_yes h.2]
theorem cut_eq (c : UInt8) (l : List UInt8) : Lib.cut l [c] = cutAt c l := by
  unfold Lib.cut
  rcases first_of c l with h | ⟨A, B, rfl, hA⟩
  · rw [index_no h, cutAt_no h, if_neg (by omega)]
  · rw [index_yes hA, cutAt_yes hA, if_pos (by omega)]
    simp
theorem splitAt_no {c : UInt8} : ∀ {l : List UInt8}, c ∉ l → splitAt c l = [l]
  | [], _ => rfl
  | b :: l, h => by
    rw [List.mem_cons, not_or] at h
    unfold splitAt
    rw [if_neg (fun e => h.1 e.symm), splitAt_no h.2]
theorem splitAt_yes {c : UInt8} : ∀ {A B : List UInt8}, c ∉ A → splitAt c (A ++ c :: B) = A :: splitAt c B
  | [], B, _ => by simp [splitAt]
  | a :: A, B, h => by
    rw [List.mem_cons, not_or] at h
    rw [List.cons_append]
    conv => lhs; unfold splitAt
    rw [if_neg (fun e => h.1 e.symm), splitAt_yes h.2]
theorem splitK_eq (c : UInt8) : ∀ (n : Nat) (l : List UInt8), l.length ≤ n → Lib.splitK [c] 0 (Lib.count l [c]) l = splitAt c l := by
  intro n
  induction n with
  | zero =>
    intro l hl
    have : l = [] := List.length_eq_zero_iff.1 (by omega)
    subst this
    rw [Lib.count_miss (index_no (by simp))]; rfl
  | succ n ih =>
    intro l hl
    rcases first_of c l with h | ⟨A, B, rfl, hA⟩
    · rw [Lib.count_miss (index_no h), splitAt_no h]; rfl
    · have hi := index_yes (B := B) hA
      rw [Lib.count_hit (by simp) hi, splitAt_yes hA, Nat.add_comm, Lib.splitK, if_neg (by rw [hi]; simp), hi]
      have e : (A ++ c :: B).drop (((A.length : Nat) : Int).toNat + [c].length) = B := by
        rw [Int.toNat_natCast, List.length_singleton, List.drop_append]
        simp
      have e2 : (A ++ c :: B).drop (A.length + [c].length) = B := by simp
      rw [e, e2, ih B (by simp at hl; omega)]
      simp
theorem splitB_eq (c : UInt8) (s : ByteArray) : Lib.splitB (tx [c]) 0 (Lib.countB s (tx [c])) s = (splitAt c s.data.toList).map tx := by
  have h := Lib.splitB_data (tx [c]) 0 (Lib.countB s (tx [c])) s
  have hc : Lib.countB s (tx [c]) = Lib.count s.data.toList [c] := by rw [show Lib.countB s (tx [c]) = Lib.count s.data.toList (tx [c]).data.toList from rfl, tx_list]
  rw [tx_list, hc, splitK_eq c _ _ (Nat.le_refl _)] at h
  rw [← h, List.map_map, hc]
  conv => lhs; rw [← List.map_id (Lib.splitB (tx [c]) 0 (Lib.count s.data.toList [c]) s)]
  refine List.map_congr_left fun x _ => ?_
  exact (tx_of x).symm

/-- words: what stands between blanks and is not empty -/
def wordsL (l : List UInt8) : List (List UInt8) := (splitAt 32 l).filter fun w => !w.isEmpty
/-- one byte more: the words that are whole, the one that is begun -/
def wstep (st : List (List UInt8) × List UInt8) (c : UInt8) : List (List UInt8) × List UInt8 := if c = 32 then (if st.2.isEmpty then st.1 else st.1 ++ [st.2], []) else (st.1, st.2 ++ [c])
def wend (st : List (List UInt8) × List UInt8) : List (List UInt8) := if st.2.isEmpty then st.1 else st.1 ++ [st.2]
theorem words_fold : ∀ (l : List UInt8) (ws : List (List UInt8)) (w : List UInt8), wend (l.foldl wstep (ws, w)) = ws ++ ((match splitAt 32 l with
    | h :: t => (w ++ h) :: t
    | [] => []).filter fun w => !w.isEmpty)
  | [], ws, w => by
    simp only [List.foldl_nil, wend, splitAt, List.append_nil]
    cases w <;> simp
  | b :: l, ws, w => by
    rw [List.foldl_cons]
    by_cases e : b = 32
    · subst e
      have h1 : wstep (ws, w) 32 = (if w.isEmpty then ws else ws ++ [w], []) := by simp [wstep]
      rw [h1, words_fold l]
      have h2 : splitAt 32 (32 :: l) = [] :: splitAt 32 l := by simp [splitAt]
      rw [h2]
      cases hs : splitAt 32 l with
      | nil => exact absurd hs (splitAt_ne _ _)
      | cons h t =>
        cases w <;> simp [List.filter_cons]
    · have h1 : wstep (ws, w) b = (ws, w ++ [b]) := by simp [wstep, e]
      rw [h1, words_fold l]
      cases hs : splitAt 32 l with
      | nil => exact absurd hs (splitAt_ne _ _)
      | cons h t =>
        have h2 : splitAt 32 (b :: l) = (b :: h) :: t := by unfold splitAt; rw [if_neg e, hs]
        rw [h2]; simp
theorem words_eq (l : List UInt8) : wend (l.foldl wstep ([], [])) = wordsL l := by
  rw [words_fold]
  unfold wordsL
  cases hs : splitAt 32 l with
  | nil => exact absurd hs (splitAt_ne _ _)
  | cons h t => simp
end Go.Proofs.YtgeedjlbajmdkaaGreatDoor
/- append of a slice that is read to one of the call's own, nil or not; parts of a slice. -/
namespace Go.Proofs.YtgeedjlbajmdkaaGreatDoor
open Go.RowKit

theorem Sl.cells {α : Type} {sz : Nat} {enc : α → List Value} (hsz : ∀ x, (enc x).length = sz) (hpos : 0 < sz) {w : World} {b off : Nat} {l : List α} (h : Sl sz enc w (some ⟨b, off, none⟩) l) : ∀ (j : Nat) (u : Value), (l.flatMap enc)[j]? = some u → w.cell? ((⟨b, off, none⟩ : Addr).add j) = some u := by
  intro j u hj
  have hl : ∀ l : List α, (l.flatMap enc).length = l.length * sz := by
    intro l
    induction l with
    | nil => simp
    | cons a l ih => rw [List.flatMap_cons, List.length_append, ih, hsz, List.length_cons, Nat.succ_mul]; omega
  have hlt := (List.getElem?_eq_some_iff.1 hj).1
  rw [hl] at hlt
  have h0 : 0 < l.length := by
    rcases Nat.eq_zero_or_pos l.length with e | e
    · rw [e] at hlt; omega
    · exact e
  obtain ⟨b', off', e, _, hc⟩ := h h0
  cases e
  have hi : j / sz < l.length := by rw [Nat.div_lt_iff_lt_mul hpos]; exact hlt
  have hm : j % sz < sz := Nat.mod_lt _ hpos
  obtain ⟨x, hx⟩ : ∃ x, l[j / sz]? = some x := ⟨_, List.getElem?_eq_getElem hi⟩
  obtain ⟨v, hv⟩ : ∃ v, (enc x)[j % sz]? = some v := ⟨(enc x)[j % sz]'(by rw [hsz]; exact hm), List.getElem?_eq_getElem _⟩
  have h1 := flat_get hsz (l := l) (i := j / sz) (x := x) hx hv
  rw [show j / sz * sz + j % sz = j by rw [Nat.mul_comm]; exact Nat.div_add_mod j sz] at h1
  rw [hj] at h1
  cases h1
  have h2 := hc (j / sz) x (j % sz) u hx hv
  have e : ((⟨b, off, none⟩ : Addr).add j) = ⟨b, off + j, none⟩ := by unfold Addr.add; split <;> simp_all
  rw [e]
  rw [show off + j / sz * sz + j % sz = off + j by rw [Nat.add_assoc, Nat.mul_comm]; congr 1; exact Nat.div_add_mod j sz] at h2
  exact h2

theorem Sl.cellsA {α : Type} {sz : Nat} {enc : α → List Value} (hsz : ∀ x, (enc x).length = sz) (hpos : 0 < sz) {w : World} {ad : Addr} {l : List α} (h : Sl sz enc w (some ad) l) : ∀ (j : Nat) (u : Value), (l.flatMap enc)[j]? = some u → w.cell? (ad.add j) = some u := by
  rcases Nat.eq_zero_or_pos l.length with e | e
  · obtain rfl := List.length_eq_zero_iff.1 e
    intro j u hj; simp at hj
  · obtain ⟨b, off, e', _⟩ := h e
    cases e'
    exact Sl.cells hsz hpos h

theorem Sl.kept {α : Type} {sz : Nat} {enc : α → List Value} {S : Nat → Prop} {w w' : World} {ao : Option Addr} {l : List α} (h : Sl sz enc w ao l) (k : KeptBut S w w') (hs : ∀ b off, ao = some ⟨b, off, none⟩ → ¬ S b) : Sl sz enc w' ao l := by
  intro h0
  obtain ⟨b, off, e, hlt, hc⟩ := h h0
  exact ⟨b, off, e, by have := k.size; omega, fun i x j v hi hj => k.cell (hc i x j v hi hj) (hs b off e)⟩
section
variable {α : Type} {sz : Nat} {enc : α → List Value} {e : TypeId} {w : World} {base : Nat} {v : Value} {l : List α}
theorem Sl.none_nil {l : List α} (h : Sl sz enc w none l) : l = [] := by
  rcases Nat.eq_zero_or_pos l.length with h0 | h0
  · exact List.length_eq_zero_iff.1 h0
  · obtain ⟨_, _, e, _⟩ := h h0; cases e
theorem wpList_append_any {P : Program} {ops : Array Oper} {rest : List Oper} {o : Oper} {a : Act} {Q : Exit → Act → World → Prop} {w0 : World} {bytes : Nat} (hsz : ∀ x, (enc x).length = sz) (s x : Operand) (t : TypeId) (i : TypeInfo) (z : Value) (hgd : o.guard = none)
    (ho : o.op = .call { callee := .builtin .append, args := #[s, x], argTypes := #[t, t] })
    (ht : P.underlying t = some (.slice e)) (hi : P.info? e = some i) (hz : i.zero = some z) (hsize : i.size = sz) (hby : i.bytes = bytes) (hzs : z.cells.size = sz) (hpos : 0 < sz) (hb100 : bytes ≤ 100)
    (hown : Own sz enc e w base v l) (hbel : Below base w0 w) (hB : base ≤ w.heap.size) (l2 : List α) (hlen : l.length + l2.length ≤ 1000000000)
    (hs : a.eval s = v) (ao : Option Addr) (c m : Nat) (hm : m = l2.length) (hx : a.eval x = .slice ao m c) (hnil : ao = none → c = 0)
    (hsl : Sl sz enc w ao l2) (h1 : ∀ u ∈ l2.flatMap enc, u.oneCell' = true)
    (h : ∀ v' w', Own sz enc e w' base v' (l ++ l2) → Below base w0 w' → w.grownBy w' v.ownBlock → (v'.ownBlock = v.ownBlock ∨ v'.ownBlock = some w.heap.size) → wpList P ops Q rest (a.put o.dst v') w') : wpList P ops Q (o :: rest) a w := by
  cases ao with
  | none =>
    obtain rfl : c = 0 := hnil rfl
    obtain rfl := hsl.none_nil
    subst hm
    refine wpList_append_own_none hgd s x t ho base e i sz ht hi v _ _ hs hown.2 hx ?_
    exact h v w (by simpa using hown) hbel ⟨rfl, rfl, rfl, Nat.le_refl _, fun _ _ _ => rfl⟩ (.inl rfl)
  | some ad =>
    exact wpList_append_list hsz s x t i z hgd ho ht hi hz hsize hby hzs hpos hb100 hown hbel hB l2 hlen hs ad c m hm hx (Sl.cellsA hsz hpos hsl) h1 h
theorem Own.shape (h : Own sz enc e w base v l) : (v = .slice none 0 0 ∧ l = []) ∨ ∃ g cap, v = .slice (some ⟨g, 0, none⟩) l.length cap ∧ l.length ≤ cap ∧ base ≤ g ∧ g < w.heap.size := by
  have h2 := h.lt
  obtain ⟨_, hl, hh⟩ := h
  rcases hh with ⟨e, hn⟩ | ⟨g, cap, cur, rfl, hbg, hg, r, _⟩
  · exact .inl ⟨e, List.length_eq_zero_iff.1 hn⟩
  · exact .inr ⟨g, cap, rfl, r, h2 g rfl⟩
theorem Own.cap0 {ao : Option Addr} {n c : Nat} (h : Own sz enc e w base (.slice ao n c) l) : ao = none → c = 0 := by
  intro e
  rcases h.shape with ⟨h, _⟩ | ⟨_, _, h, _⟩
  · injection h
  · injection h with h1; rw [e] at h1; cases h1
/-- the first k -/
theorem Sl.takeK {ao : Option Addr} (h : Sl sz enc w ao l) (k : Nat) : Sl sz enc w ao (l.take k) := by
  intro h0
  obtain ⟨b, off, e, hlt, hc⟩ := h (by rw [List.length_take] at h0; omega)
  refine ⟨b, off, e, hlt, fun i x j v hi hj => hc i x j v ?_ hj⟩
  rw [List.getElem?_take] at hi
  split at hi
  · exact hi
  · cases hi
/-- from k on -/
theorem Sl.dropK {b off : Nat} (h : Sl sz enc w (some ⟨b, off, none⟩) l) (k : Nat) : Sl sz enc w (some ⟨b, off + k * sz, none⟩) (l.drop k) := by
  intro h0
  obtain ⟨b', off', e, hlt, hc⟩ := h (by rw [List.length_drop] at h0; omega)
  cases e
  refine ⟨b, off + k * sz, rfl, hlt, fun i x j v hi hj => ?_⟩
  rw [List.getElem?_drop] at hi
  have := hc (k + i) x j v hi hj
  rwa [Nat.add_mul, ← Nat.add_assoc] at this
end
end Go.Proofs.YtgeedjlbajmdkaaGreatDoor
namespace Go.Proofs.YtgeedjlbajmdkaaGreatDoor
open Go.RowKit

def encS (s : ByteArray) : List Value := [.string s]
theorem encS_len (s : ByteArray) : (encS s).length = 1 := rfl
theorem one_str : ∀ x, ∀ u ∈ encS x, u.oneCell' = true := fun x u h => by simp [encS] at h; subst h; rfl
theorem Sl.str {w : World} {ao : Option Addr} {l : List ByteArray} (h : Sl 1 encS w ao l) {k : Nat} (hk : k < l.length) :
    ∃ b off x, ao = some ⟨b, off, none⟩ ∧ b < w.heap.size ∧ l[k]? = some x ∧ w.cell? ⟨b, off + k, none⟩ = some (.string x) := by
  obtain ⟨b, off, e, hlt, hc⟩ := h (by omega)
  refine ⟨b, off, l[k], e, hlt, by simp [hk], ?_⟩
  have := hc k l[k] 0 _ (by simp [hk]) rfl
  simpa using this
theorem infoStr : (Tryz.prog.info? 9).map (fun i => (i.zero, i.size, i.bytes)) = some (some (.string ByteArray.empty), 1, 16) := by kernel_rfl
/-- the library's variable MaxLen holds some number -/
def GM (w : World) : Prop := ∃ m, w.cell? ⟨0, 0, none⟩ = some (.int .i64 m)
theorem GM.later {w w' : World} {B : Nat} (h : GM w) (hb : Below B w w') (hB : w.heap.size ≤ B) : GM w' := by
  obtain ⟨m, hm⟩ := h
  have hlt := World.block_lt_of_cell? w _ hm
  exact ⟨m, by rw [hb.cell (p := ⟨0, 0, none⟩) (Nat.lt_of_lt_of_le hlt hB)]; exact hm⟩
theorem countB_len (s sep : ByteArray) (h : 1 ≤ sep.size) : Lib.countB s sep + 1 = (Lib.splitB sep 0 (Lib.countB s sep) s).length := (Lib.splitB_all sep h 0 _ s rfl).symm
/-- strings.Split at one byte -/
theorem Split_one (c : UInt8) (s : ByteArray) (w : World) (hg : GM w) (hs : s.size ≤ 1000000) :
    Calls Tryz.prog 48 #[.string s, .string (tx [c])] w fun e w' => e = .returned (.slice (some ⟨w.heap.size, 0, none⟩) ((splitAt c s.data.toList).map tx).length ((splitAt c s.data.toList).map tx).length) ∧
      w' = w.alloc (.cells (((splitAt c s.data.toList).map tx).map Value.string).toArray 9) := by
  obtain ⟨m, hm⟩ := hg
  have h1 : 1 ≤ (tx [c]).size := by simp [tx_size]
  refine (Tryz.strings_Split s (tx [c]) m w (by omega) hm h1).mono ?_
  rintro e w' ⟨rfl, rfl⟩
  rw [countB_len _ _ h1, splitB_eq]
  exact ⟨rfl, rfl⟩
theorem news_cells (w : World) {cs : Array Value} (t : TypeId) {l : List Value} (h : cs.toList = l) : ∀ (j : Nat) (u : Value), l[j]? = some u → (w.alloc (.cells cs t)).cell? ((⟨w.heap.size, 0, none⟩ : Addr).add j) = some u := by
  intro j u hj
  rw [add_at _ _ _ _ rfl, Nat.zero_add]
  exact (Bk.new (w := w) (t := t) h).get hj
def wordsB (s : ByteArray) : List ByteArray := ((splitAt 32 s.data.toList).map tx).filter fun x => !x.toList.isEmpty
theorem wordsB_eq (s : ByteArray) : wordsB s = (wordsL s.data.toList).map tx := by
  unfold wordsB wordsL
  rw [List.filter_map]
  congr 1
  refine List.filter_congr fun x _ => ?_
  show (!(tx x).toList.isEmpty) = _
  rw [tl, tx_list]
theorem filter_take_succ {α : Type} {p : α → Bool} {l : List α} {k : Nat} {x : α} (h : l[k]? = some x) : (l.take (k + 1)).filter p = (l.take k).filter p ++ (if p x then [x] else []) := by
  obtain ⟨hlt, hx⟩ := List.getElem?_eq_some_iff.1 h
  rw [List.take_succ_eq_append_getElem hlt, hx, List.filter_append]
  by_cases hp : p x = true <;> simp [hp]
theorem tl_len (s : ByteArray) : s.data.toList.length = s.size := Array.length_toList
theorem flat_str (l : List ByteArray) : l.flatMap encS = l.map Value.string := by
  induction l with
  | nil => rfl
  | cons a l ih => rw [List.flatMap_cons, ih]; rfl
theorem splitAt_len (c : UInt8) (l : List UInt8) : (splitAt c l).length ≤ l.length + 1 := by
  induction l with
  | nil => simp [splitAt]
  | cons b l ih =>
    unfold splitAt
    split
    · simp; omega
    · split
      · rename_i h t e
        rw [e] at ih
        simp at ih ⊢; omega
      · simp
set_option maxHeartbeats 1000000 in
theorem Words_any (s : ByteArray) (w : World) (hg : GM w) (hs : s.size ≤ 1000000) :
    Calls Tryz.prog 98 #[.string s] w fun e w' => ∃ v, e = .returned v ∧ Own 1 encS 9 w' w.heap.size v (wordsB s) ∧ Below w.heap.size w w' := by
  obtain ⟨ip, hpi, hpz0, hpz1, hpz2⟩ := info_parts infoStr
  have HS := hide (Split_one 32 s w hg hs)
  have hlen : ((splitAt 32 s.data.toList).map tx).length ≤ 1000001 := by
    have := splitAt_len 32 s.data.toList
    rw [List.length_map]
    have e := tl_len s
    omega
  have HW : Hid (wordsB s = ((splitAt 32 s.data.toList).map tx).filter fun x => !x.toList.isEmpty) := rfl
  generalize (splitAt 32 s.data.toList).map tx = ps at *
  go_enter Tryz.func98, Tryz.ntmps98
  go_wp2_with fail
  refine HS.out.mono ?_
  rintro e w1 ⟨rfl, rfl⟩
  have hsl : Sl 1 encS (w.alloc (.cells (ps.map Value.string).toArray 9)) (some ⟨w.heap.size, 0, none⟩) ps := Sl.lit encS_len (heap_new _ _) (flat_str ps).symm
  have hb1 : Below w.heap.size w (w.alloc (.cells (ps.map Value.string).toArray 9)) := (Below.refl _ _).alloc (Nat.le_refl _) _
  have hlt1 : w.heap.size < (w.alloc (.cells (ps.map Value.string).toArray 9)).heap.size := by simp
  generalize w.alloc (.cells (ps.map Value.string).toArray 9) = w1 at *
  clear HS
  go_wp2
  go_loopw [3, 9] (fun v i wr => ∃ k : Nat, k ≤ ps.length ∧ i = .int .i64 k ∧ Own 1 encS 9 wr w1.heap.size v ((ps.take k).filter fun x => !x.toList.isEmpty) ∧ Below w1.heap.size w1 wr) (fun _ i _ => ps.length - (intOf i).toNat)
  case atStart => exact ⟨0, by omega, rfl, Own.nil, Below.refl _ _⟩
  case round =>
    obtain ⟨k, hk, rfl, hown, hbl⟩ := hrel
    by_cases hlt : k < ps.length
    · obtain ⟨b, off, x, e1, hbw, hlk, c0⟩ := (hsl.later hbl (Nat.le_refl _)).str hlt
      cases e1
      rw [Nat.zero_add] at c0
      have hfl : ((ps.take k).filter fun x => !x.toList.isEmpty).length ≤ k := by
        have := List.length_filter_le (fun x : ByteArray => !x.toList.isEmpty) (ps.take k)
        rw [List.length_take] at this; omega
      have HT := hide (filter_take_succ (p := fun x : ByteArray => !x.toList.isEmpty) hlk)
      clear hlk
      generalize (ps.take k).filter (fun x => !x.toList.isEmpty) = acc at *
      have f1 : (0 : Int) ≤ (k : Int) ∧ (k : Int) < (ps.length : Int) := by omega
      obtain ⟨f1, f2⟩ := f1
      cases hx : x.toList.isEmpty
      · have HT2 : Hid ((ps.take (k + 1)).filter (fun x => !x.toList.isEmpty) = acc ++ [x]) := by show _ = _; rw [HT.out, hx]; rfl
        have hx2 : (!x.toList.isEmpty) = true := by rw [hx]; rfl
        clear HT hx
        go_wp2_with (at_builtin; refine wpList_append_one encS_len _ _ 42 ip _ rfl rfl Tryz.underlying42 hpi hpz0 hpz1 hpz2 rfl (by decide) (by decide) (hown.alloc _) (hbl.alloc hbl.size _) ?c1 ?c2 rfl x ⟨wr.heap.size, 0, none⟩ 1 rfl ?c3 ?c4 ?_)
        case c1 => have := hbl.size; simp; omega
        case c2 => omega
        case c3 => exact news_cells wr _ rfl
        case c4 => exact one_str x
        intro v' w2 ho hb _ _
        go_wp2
        go_roundw
        case rel => exact ⟨k + 1, by omega, by go_num, by rw [HT2.out]; exact ho, hb⟩
        case measure => simp [intOf]; omega
      · have HT2 : Hid ((ps.take (k + 1)).filter (fun x => !x.toList.isEmpty) = acc) := by show _ = _; rw [HT.out, hx]; simp
        have hx3 : x.toList = [] := by simpa using hx
        clear HT hx
        go_wp2
        go_roundw
        case rel => exact ⟨k + 1, by omega, by go_num, by rw [HT2.out]; exact hown, hbl⟩
        case measure => simp [intOf]; omega
    · obtain rfl : k = ps.length := by omega
      rw [List.take_length] at hown
      go_wp2
      go_ret
      exact ⟨_, rfl, by rw [HW.out]; exact hown.base_le (by omega), hb1.trans (hbl.mono (by omega))⟩
end Go.Proofs.YtgeedjlbajmdkaaGreatDoor
/- Package order: Rises; slices.Clone at pairs; the reference Sorted. -/
namespace Go.Proofs.YtgeedjlbajmdkaaGreatDoor
open Go.RowKit

theorem infoPr : (Tryz.prog.info? 101).map (fun i => (i.zero, i.size, i.bytes)) = some (some (.agg #[.string ⟨#[]⟩, .int .i64 0]), 2, 24) := by kernel_rfl
end Go.Proofs.YtgeedjlbajmdkaaGreatDoor
/- Plain laws of words: they have no blanks; with one blank between they are read again. -/
namespace Go.Proofs.YtgeedjlbajmdkaaGreatDoor
open Go.RowKit

theorem splitAt_app (c : UInt8) : ∀ (A B : List UInt8), splitAt c (A ++ c :: B) = splitAt c A ++ splitAt c B
  | [], B => by simp [splitAt]
  | a :: A, B => by
    rw [List.cons_append]
    have ih := splitAt_app c A B
    by_cases e : a = c
    · subst e
      have h1 : splitAt a (a :: (A ++ a :: B)) = [] :: splitAt a (A ++ a :: B) := by conv => lhs; unfold splitAt; rw [if_pos rfl]
      have h2 : splitAt a (a :: A) = [] :: splitAt a A := by conv => lhs; unfold splitAt; rw [if_pos rfl]
      rw [h1, h2, ih]; rfl
    · cases hs : splitAt c A with
      | nil => exact absurd hs (splitAt_ne _ _)
      | cons h t =>
        have h2 : splitAt c (a :: A) = (a :: h) :: t := by unfold splitAt; rw [if_neg e, hs]
        have h1 : splitAt c (a :: (A ++ c :: B)) = (a :: h) :: (t ++ splitAt c B) := by
          conv => lhs; unfold splitAt
          rw [if_neg e, ih, hs]; rfl
        rw [h1, h2]; rfl
theorem words_app (A B : List UInt8) : wordsL (A ++ 32 :: B) = wordsL A ++ wordsL B := by
  unfold wordsL
  rw [splitAt_app, List.filter_append]
theorem splitAt_mem {c : UInt8} : ∀ {l w : List UInt8}, w ∈ splitAt c l → c ∉ w ∧ w.length ≤ l.length
  | [], w, h => by simp [splitAt] at h; subst h; simp
  | b :: l, w, h => by
    unfold splitAt at h
    by_cases e : b = c
    · rw [if_pos e] at h
      rcases List.mem_cons.1 h with h | h
      · subst h; simp
      · obtain ⟨h1, h2⟩ := splitAt_mem h
        exact ⟨h1, by simp; omega⟩
    · rw [if_neg e] at h
      cases hs : splitAt c l with
      | nil => exact absurd hs (splitAt_ne _ _)
      | cons x t =>
        rw [hs] at h
        rcases List.mem_cons.1 h with h | h
        · subst h
          obtain ⟨h1, h2⟩ := splitAt_mem (w := x) (by rw [hs]; exact List.mem_cons_self)
          exact ⟨fun h => by
            rcases List.mem_cons.1 h with h | h
            · exact e h.symm
            · exact h1 h, by simp; omega⟩
        · obtain ⟨h1, h2⟩ := splitAt_mem (w := w) (by rw [hs]; exact List.mem_cons_of_mem _ h)
          exact ⟨h1, by simp; omega⟩
theorem words_mem {l w : List UInt8} (h : w ∈ wordsL l) : 32 ∉ w ∧ w.length ≤ l.length ∧ w ≠ [] := by
  unfold wordsL at h
  rw [List.mem_filter] at h
  obtain ⟨h1, h2⟩ := splitAt_mem h.1
  exact ⟨h1, h2, by rintro rfl; simp at h⟩
theorem words_len (l : List UInt8) : (wordsL l).length ≤ l.length + 1 := by
  unfold wordsL
  refine Nat.le_trans (List.length_filter_le _ _) ?_
  induction l with
  | nil => simp [splitAt]
  | cons b l ih =>
    unfold splitAt
    split
    · simp; omega
    · split
      · rename_i h t e
        rw [e] at ih
        simp at ih ⊢; omega
      · simp
/-- words with a blank behind each -/
def blanked (ws : List (List UInt8)) : List UInt8 := ws.flatMap fun w => w ++ [32]
theorem words_one {w r : List UInt8} (h : 32 ∉ w) (h0 : w ≠ []) : wordsL (w ++ 32 :: r) = w :: wordsL r := by
  unfold wordsL
  rw [splitAt_yes h, List.filter_cons_of_pos]
  cases w with
  | nil => exact absurd rfl h0
  | cons a t => rfl
theorem words_blanked : ∀ (ws : List (List UInt8)), (∀ w ∈ ws, 32 ∉ w ∧ w ≠ []) → wordsL (blanked ws) = ws
  | [], _ => rfl
  | w :: ws, h => by
    have h1 := h w List.mem_cons_self
    have e : blanked (w :: ws) = w ++ 32 :: blanked ws := by simp [blanked]
    rw [e, words_one h1.1 h1.2, words_blanked ws fun x hx => h x (List.mem_cons_of_mem _ hx)]
theorem blanked_take_succ {ws : List (List UInt8)} {k : Nat} {w : List UInt8} (h : ws[k]? = some w) : blanked (ws.take (k + 1)) = blanked (ws.take k) ++ w ++ [32] := by
  obtain ⟨hlt, hx⟩ := List.getElem?_eq_some_iff.1 h
  unfold blanked
  rw [List.take_succ_eq_append_getElem hlt, hx, List.flatMap_append]
  simp
theorem blanked_len {ws : List (List UInt8)} {n : Nat} (h : ∀ w ∈ ws, w.length ≤ n) (k : Nat) : (blanked (ws.take k)).length ≤ k * (n + 1) := by
  induction k with
  | zero => simp [blanked]
  | succ k ih =>
    by_cases hk : k < ws.length
    · have hw : ws[k]? = some ws[k] := List.getElem?_eq_getElem hk
      rw [blanked_take_succ hw, Nat.succ_mul]
      have := h _ (List.mem_of_getElem? hw)
      simp; omega
    · rw [List.take_of_length_le (by omega)]
      rw [List.take_of_length_le (by omega)] at ih
      rw [Nat.succ_mul]; omega
end Go.Proofs.YtgeedjlbajmdkaaGreatDoor
/- append of a list to a slice of the call's own, as one step of a region that draws. -/
namespace Go.Proofs.YtgeedjlbajmdkaaGreatDoor
open Go.RowKit

section
variable {α : Type} {sz : Nat} {enc : α → List Value} {e : TypeId} {w : World} {base : Nat} {v : Value} {l : List α}
/-- append of a list to a slice of the call's own, as one step of a region that draws -/
theorem step_append_any {P : Program} {ops : Array Oper} {o : Oper} {a : Act} {K : Act → World → Prop} {Q : Exit → Act → World → Prop} {E : Prop} {w0 : World} {bytes : Nat} (hsz : ∀ x, (enc x).length = sz) (s x : Operand) (t : TypeId) (i : TypeInfo) (z : Value) (hgd : o.guard = none)
    (ho : o.op = .call { callee := .builtin .append, args := #[s, x], argTypes := #[t, t] })
    (ht : P.underlying t = some (.slice e)) (hi : P.info? e = some i) (hz : i.zero = some z) (hsize : i.size = sz) (hby : i.bytes = bytes) (hzs : z.cells.size = sz) (hpos : 0 < sz) (hb100 : bytes ≤ 100)
    (hown : Own sz enc e w base v l) (hbel : Below base w0 w) (hB : base ≤ w.heap.size) (l2 : List α) (hlen : l.length + l2.length ≤ 1000000000)
    (hs : a.eval s = v) (ao : Option Addr) (c m : Nat) (hm : m = l2.length) (hx : a.eval x = .slice ao m c) (hnil : ao = none → c = 0)
    (hsl : Sl sz enc w ao l2) (h1 : ∀ u ∈ l2.flatMap enc, u.oneCell' = true)
    (h : ∀ v' w', Own sz enc e w' base v' (l ++ l2) → Below base w0 w' → w.grownBy w' v.ownBlock → (v'.ownBlock = v.ownBlock ∨ v'.ownBlock = some w.heap.size) → K (a.put o.dst v') w') :
    if Region.wanted o (yielded ops a.tmps) = true then Oper.wp P o a w K Q else E := by
  have hw : Region.wanted o (yielded ops a.tmps) = true := by simp [Region.wanted, hgd]
  rw [if_pos hw]
  cases ao with
  | none =>
    obtain rfl : c = 0 := hnil rfl
    obtain rfl := hsl.none_nil
    subst hm
    have hrun := run_append_owned_none (P := P) (w := w) base t o.type e i sz ht hi v _ _ hown.2
    unfold Oper.wp
    simp only [execOp, ho, resolve, invoke, builtin, Sem.run_bind, Sem.run_pure, Result.andThen_ok, List.map_toArray, List.map_cons, List.map_nil, hs, hx, List.length_nil, hrun]
    exact h v w (by simpa using hown) hbel ⟨rfl, rfl, rfl, Nat.le_refl _, fun _ _ _ => rfl⟩ (.inl rfl)
  | some ad =>
    have hl : ∀ l : List α, (l.flatMap enc).length = l.length * sz := by
      intro l
      induction l with
      | nil => simp
      | cons a l ih => rw [List.flatMap_cons, List.length_append, ih, hsz, List.length_cons, Nat.succ_mul]; omega
    subst hm
    have hb : (l.length + l2.length) * bytes ≤ 1000000000 * 100 := Nat.mul_le_mul hlen hb100
    obtain ⟨v', w', hr, h2, h3, _, h5⟩ := run_append_own_at (P := P) w base t o.type e i z sz bytes ht hi hz hsize hby hzs hpos v l.length _ hown.2 ad l2.length c (l2.flatMap enc) (hl l2) (Sl.cellsA hsz hpos hsl) h1 (by unfold maxLen; omega) (by omega) hB
    unfold Oper.wp execOp
    simp only [ho, resolve, invoke, builtin, Sem.run_bind, Sem.run_pure, Result.andThen_ok, List.map_toArray, List.map_cons, List.map_nil, hs, hx, hr]
    exact h v' w' (Own.grown h2) (hown.below hbel h3 hB) h3 h5
theorem KeptBut.grownTo {S : Nat → Prop} {w w' w'' : World} {row : Option Nat} (h : KeptBut S w w') (hg : w'.grownBy w'' row) (hr : ∀ k, row = some k → S k ∨ w.heap.size ≤ k) : KeptBut S w w'' :=
  ⟨hg.os.trans h.os, hg.tape.trans h.tape, hg.output.trans h.output, Nat.le_trans h.size hg.size, fun k hk hs => (hg.block k (by have := h.size; omega) fun e => (hr k e.symm).elim hs (by omega)).trans (h.block k hk hs)⟩
end
end Go.Proofs.YtgeedjlbajmdkaaGreatDoor
