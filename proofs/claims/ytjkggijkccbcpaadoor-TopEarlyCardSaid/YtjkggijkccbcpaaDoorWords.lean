/- A record's words: expr.Words and the reference; lists of texts. -/
import Derived.Test.YtjkggijkccbcpaaDoorPairSum
import Derived.Lib.Split
import Derived.Lib.IndexMore
import Derived.Test.YtjkggijkccbcpaaDoorApp2
import Derived.Test.YtjkggijkccbcpaaDoorShelf
set_option linter.unusedSimpArgs false
set_option linter.unusedVariables false
/- Plain laws of texts: what stands ahead of a byte, what between such bytes; words. -/
namespace Go.Proofs.YtjkggijkccbcpaaDoor
open Go.RowKit

/-- a text of these bytes -/
def tx (l : List UInt8) : ByteArray := ⟨l.toArray⟩
theorem tx_list (l : List UInt8) : (tx l).data.toList = l := by simp [tx]
theorem tx_of (s : ByteArray) : tx s.data.toList = s := by cases s; simp [tx]
theorem tx_inj {a b : List UInt8} (h : tx a = tx b) : a = b := by rw [← tx_list a, h, tx_list]
theorem tx_size (l : List UInt8) : (tx l).size = l.length := by simp [tx, ByteArray.size]

/-- what stands ahead of the first c, and behind it -/
def cutAt (c : UInt8) : List UInt8 → List UInt8 × List UInt8 × Bool
  | [] => ([], [], false)
  | b :: l => if b = c then ([], l, true) else (b :: (cutAt c l).1, (cutAt c l).2.1, (cutAt c l).2.2)
/-- what stands between -/
def splitAt (c : UInt8) : List UInt8 → List (List UInt8)
  | [] => [[]]
  | b :: l => if b = c then [] :: splitAt c l else match splitAt c l with
    | h :: t => (b :: h) :: t
    | [] => [[b]]
theorem splitAt_ne (c : UInt8) (l : List UInt8) : splitAt c l ≠ [] := by
  cases l with
  | nil => simp [splitAt]
  | cons b l =>
    unfold splitAt
    split
    · simp
    · split <;> simp
theorem occ_one (c : UInt8) (l : List UInt8) (j : Nat) : Lib.occAt l [c] j = (l[j]? == some c) := by
  unfold Lib.occAt
  cases h : l.drop j with
  | nil =>
    have hl : l.length ≤ j := by simpa using h
    rw [List.getElem?_eq_none hl]; simp
  | cons b t =>
    have hb : l[j]? = some b := by
      have := congrArg List.head? h
      rw [List.head?_drop] at this
      simpa using this
    rw [hb]
    by_cases e : c = b
    · subst e; simp
    · have e1 : (c == b) = false := by simpa using e
      have e2 : (b == c) = false := by simp; exact fun h => e h.symm
      simp [List.isPrefixOf, e1, e2]
theorem index_no {c : UInt8} {l : List UInt8} (h : c ∉ l) : Lib.index l [c] = -1 := by
  refine Lib.index_none fun j _ => ?_
  rw [occ_one]
  cases hj : l[j]? with
  | none => rfl
  | some b =>
    have : b ≠ c := fun e => h (e ▸ List.mem_of_getElem? hj)
    simp [this]
theorem index_yes {c : UInt8} {A B : List UInt8} (h : c ∉ A) : Lib.index (A ++ c :: B) [c] = A.length := by
  refine Lib.index_first (by simp) ?_ fun j hj => ?_
  · rw [occ_one, List.getElem?_append_right (Nat.le_refl _)]; simp
  · rw [occ_one, List.getElem?_append_left hj]
    have hx : A[j]? = some A[j] := List.getElem?_eq_getElem hj
    rw [hx]
    have : A[j] ≠ c := fun e => h (e ▸ List.getElem_mem hj)
    simp [this]
theorem first_of (c : UInt8) : ∀ (l : List UInt8), c ∉ l ∨ ∃ A B, l = A ++ c :: B ∧ c ∉ A
  | [] => .inl (by simp)
  | b :: l => by
    by_cases e : b = c
    · subst e; exact .inr ⟨[], l, rfl, by simp⟩
    · rcases first_of c l with h | ⟨A, B, h, hA⟩
      · refine .inl ?_
        rw [List.mem_cons]
        rintro (h2 | h2)
        · exact e h2.symm
        · exact h h2
      · refine .inr ⟨b :: A, B, by rw [h]; rfl, ?_⟩
        rw [List.mem_cons]
        rintro (h2 | h2)
        · exact e h2.symm
        · exact hA h2
theorem cutAt_no {c : UInt8} : ∀ {l : List UInt8}, c ∉ l → cutAt c l = (l, [], false)
  | [], _ => rfl
  | b :: l, h => by
    rw [List.mem_cons, not_or] at h
    unfold cutAt
    rw [if_neg (fun e => h.1 e.symm), cutAt_no h.2]
theorem cutAt_yes {c : UInt8} : ∀ {A B : List UInt8}, c ∉ A → cutAt c (A ++ c :: B) = (A, B, true)
  | [], B, _ => by simp [cutAt]
  | a :: A, B, h => by
    rw [List.mem_cons, not_or] at h
    rw [List.cons_append]
    unfold cutAt
    rw [if_neg (fun e => h.1 e.symm), cutAt_yes h.2]
theorem cut_eq (c : UInt8) (l : List UInt8) : Lib.cut l [c] = cutAt c l := by
  unfold Lib.cut
  rcases first_of c l with h | ⟨A, B, rfl, hA⟩
  · rw [index_no h, cutAt_no h, if_neg (by omega)]
  · rw [index_yes hA, cutAt_yes hA, if_pos (by omega)]
    simp
theorem splitAt_no {c : UInt8} : ∀ {l : List UInt8}, c ∉ l → splitAt c l = [l]
  | [], _ => rfl
  | b :: l, h => by
    rw [List.mem_cons, not_or] at h
    unfold splitAt
    rw [if_neg (fun e => h.1 e.symm), splitAt_no h.2]
theorem splitAt_yes {c : UInt8} : ∀ {A B : List UInt8}, c ∉ A → splitAt c (A ++ c :: B) = A :: splitAt c B
  | [], B, _ => by simp [splitAt]
  | a :: A, B, h => by
    rw [List.mem_cons, not_or] at h
    rw [List.cons_append]
    conv => lhs; unfold splitAt
    rw [if_neg (fun e => h.1 e.symm), splitAt_yes h.2]
theorem splitK_eq (c : UInt8) : ∀ (n : Nat) (l : List UInt8), l.length ≤ n → Lib.splitK [c] 0 (Lib.count l [c]) l = splitAt c l := by
  intro n
  induction n with
  | zero =>
    intro l hl
    have : l = [] := List.length_eq_zero_iff.1 (by omega)
    subst this
    rw [Lib.count_miss (index_no (by simp))]; rfl
  | succ n ih =>
    intro l hl
    rcases first_of c l with h | ⟨A, B, rfl, hA⟩
    · rw [Lib.count_miss (index_no h), splitAt_no h]; rfl
    · have hi := index_yes (B := B) hA
      rw [Lib.count_hit (by simp) hi, splitAt_yes hA, Nat.add_comm, Lib.splitK, if_neg (by rw [hi]; simp), hi]
      have e : (A ++ c :: B).drop (((A.length : Nat) : Int).toNat + [c].length) = B := by
        rw [Int.toNat_natCast, List.length_singleton, List.drop_append]
        simp
      have e2 : (A ++ c :: B).drop (A.length + [c].length) = B := by simp
      rw [e, e2, ih B (by simp at hl; omega)]
      simp
theorem splitB_eq (c : UInt8) (s : ByteArray) : Lib.splitB (tx [c]) 0 (Lib.countB s (tx [c])) s = (splitAt c s.data.toList).map tx := by
  have h := Lib.splitB_data (tx [c]) 0 (Lib.countB s (tx [c])) s
  have hc : Lib.countB s (tx [c]) = Lib.count s.data.toList [c] := by rw [show Lib.countB s (tx [c]) = Lib.count s.data.toList (tx [c]).data.toList from rfl, tx_list]
  rw [tx_list, hc, splitK_eq c _ _ (Nat.le_refl _)] at h
  rw [← h, List.map_map, hc]
  conv => lhs; rw [← List.map_id (Lib.splitB (tx [c]) 0 (Lib.count s.data.toList [c]) s)]
  refine List.map_congr_left fun x _ => ?_
  exact (tx_of x).symm

/-- words: what stands between blanks and is not empty -/
def wordsL (l : List UInt8) : List (List UInt8) := (splitAt 32 l).filter fun w => !w.isEmpty
/-- one byte more: the words that are whole, the one that is begun -/
def wstep (st : List (List UInt8) × List UInt8) (c : UInt8) : List (List UInt8) × List UInt8 := if c = 32 then (if st.2.isEmpty then st.1 else st.1 ++ [st.2], []) else (st.1, st.2 ++ [c])
def wend (st : List (List UInt8) × List UInt8) : List (List UInt8) := if st.2.isEmpty then st.1 else st.1 ++ [st.2]
theorem words_fold : ∀ (l : List UInt8) (ws : List (List UInt8)) (w : List UInt8), wend (l.foldl wstep (ws, w)) = ws ++ ((match splitAt 32 l with
    | h :: t => (w ++ h) :: t
    | [] => []).filter fun w => !w.isEmpty)
  | [], ws, w => by
    simp only [List.foldl_nil, wend, splitAt, List.append_nil]
    cases w <;> simp
  | b :: l, ws, w => by
    rw [List.foldl_cons]
    by_cases e : b = 32
    · subst e
      have h1 : wstep (ws, w) 32 = (if w.isEmpty then ws else ws ++ [w], []) := by simp [wstep]
      rw [h1, words_fold l]
      have h2 : splitAt 32 (32 :: l) = [] :: splitAt 32 l := by simp [splitAt]
      rw [h2]
      cases hs : splitAt 32 l with
      | nil => exact absurd hs (splitAt_ne _ _)
      | cons h t =>
        cases w <;> simp [List.filter_cons]
    · have h1 : wstep (ws, w) b = (ws, w ++ [b]) := by simp [wstep, e]
      rw [h1, words_fold l]
      cases hs : splitAt 32 l with
      | nil => exact absurd hs (splitAt_ne _ _)
      | cons h t =>
        have h2 : splitAt 32 (b :: l) = (b :: h) :: t := by unfold splitAt; rw [if_neg e, hs]
        rw [h2]; simp
theorem words_eq (l : List UInt8) : wend (l.foldl wstep ([], [])) = wordsL l := by
  rw [words_fold]
  unfold wordsL
  cases hs : splitAt 32 l with
  | nil => exact absurd hs (splitAt_ne _ _)
  | cons h t => simp
end Go.Proofs.YtjkggijkccbcpaaDoor
namespace Go.Proofs.YtjkggijkccbcpaaDoor
open Go.RowKit

def encS (s : ByteArray) : List Value := [.string s]
theorem encS_len (s : ByteArray) : (encS s).length = 1 := rfl
theorem one_str : ∀ x, ∀ u ∈ encS x, u.oneCell' = true := fun x u h => by simp [encS] at h; subst h; rfl
theorem Sl.str {w : World} {ao : Option Addr} {l : List ByteArray} (h : Sl 1 encS w ao l) {k : Nat} (hk : k < l.length) :
    ∃ b off x, ao = some ⟨b, off, none⟩ ∧ b < w.heap.size ∧ l[k]? = some x ∧ w.cell? ⟨b, off + k, none⟩ = some (.string x) := by
  obtain ⟨b, off, e, hlt, hc⟩ := h (by omega)
  refine ⟨b, off, l[k], e, hlt, by simp [hk], ?_⟩
  have := hc k l[k] 0 _ (by simp [hk]) rfl
  simpa using this
theorem infoStr : (Tryd.prog.info? 9).map (fun i => (i.zero, i.size, i.bytes)) = some (some (.string ByteArray.empty), 1, 16) := by kernel_rfl
/-- the library's variable MaxLen holds some number -/
def GM (w : World) : Prop := ∃ m, w.cell? ⟨0, 0, none⟩ = some (.int .i64 m)
theorem GM.later {w w' : World} {B : Nat} (h : GM w) (hb : Below B w w') (hB : w.heap.size ≤ B) : GM w' := by
  obtain ⟨m, hm⟩ := h
  have hlt := World.block_lt_of_cell? w _ hm
  exact ⟨m, by rw [hb.cell (p := ⟨0, 0, none⟩) (Nat.lt_of_lt_of_le hlt hB)]; exact hm⟩
theorem countB_len (s sep : ByteArray) (h : 1 ≤ sep.size) : Lib.countB s sep + 1 = (Lib.splitB sep 0 (Lib.countB s sep) s).length := (Lib.splitB_all sep h 0 _ s rfl).symm
/-- strings.Split at one byte -/
theorem Split_one (c : UInt8) (s : ByteArray) (w : World) (hg : GM w) (hs : s.size ≤ 1000000) :
    Calls Tryd.prog 28 #[.string s, .string (tx [c])] w fun e w' => e = .returned (.slice (some ⟨w.heap.size, 0, none⟩) ((splitAt c s.data.toList).map tx).length ((splitAt c s.data.toList).map tx).length) ∧
      w' = w.alloc (.cells (((splitAt c s.data.toList).map tx).map Value.string).toArray 9) := by
  obtain ⟨m, hm⟩ := hg
  have h1 : 1 ≤ (tx [c]).size := by simp [tx_size]
  refine (Tryd.strings_Split s (tx [c]) m w (by omega) hm h1).mono ?_
  rintro e w' ⟨rfl, rfl⟩
  rw [countB_len _ _ h1, splitB_eq]
  exact ⟨rfl, rfl⟩
theorem news_cells (w : World) {cs : Array Value} (t : TypeId) {l : List Value} (h : cs.toList = l) : ∀ (j : Nat) (u : Value), l[j]? = some u → (w.alloc (.cells cs t)).cell? ((⟨w.heap.size, 0, none⟩ : Addr).add j) = some u := by
  intro j u hj
  rw [add_at _ _ _ _ rfl, Nat.zero_add]
  exact (Bk.new (w := w) (t := t) h).get hj
def wordsB (s : ByteArray) : List ByteArray := ((splitAt 32 s.data.toList).map tx).filter fun x => !x.toList.isEmpty
theorem wordsB_eq (s : ByteArray) : wordsB s = (wordsL s.data.toList).map tx := by
  unfold wordsB wordsL
  rw [List.filter_map]
  congr 1
  refine List.filter_congr fun x _ => ?_
  show (!(tx x).toList.isEmpty) = _
  rw [tl, tx_list]
theorem filter_take_succ {α : Type} {p : α → Bool} {l : List α} {k : Nat} {x : α} (h : l[k]? = some x) : (l.take (k + 1)).filter p = (l.take k).filter p ++ (if p x then [x] else []) := by
  obtain ⟨hlt, hx⟩ := List.getElem?_eq_some_iff.1 h
  rw [List.take_succ_eq_append_getElem hlt, hx, List.filter_append]
  by_cases hp : p x = true <;> simp [hp]
theorem tl_len (s : ByteArray) : s.data.toList.length = s.size := Array.length_toList
theorem flat_str (l : List ByteArray) : l.flatMap encS = l.map Value.string := by
  induction l with
  | nil => rfl
  | cons a l ih => rw [List.flatMap_cons, ih]; rfl
theorem splitAt_len (c : UInt8) (l : List UInt8) : (splitAt c l).length ≤ l.length + 1 := by
  induction l with
  | nil => simp [splitAt]
  | cons b l ih =>
    unfold splitAt
    split
    · simp; omega
    · split
      · rename_i h t e
        rw [e] at ih
        simp at ih ⊢; omega
      · simp
set_option maxHeartbeats 1000000 in
theorem Words_any (s : ByteArray) (w : World) (hg : GM w) (hs : s.size ≤ 1000000) :
    Calls Tryd.prog 66 #[.string s] w fun e w' => ∃ v, e = .returned v ∧ Own 1 encS 9 w' w.heap.size v (wordsB s) ∧ Below w.heap.size w w' := by
  obtain ⟨ip, hpi, hpz0, hpz1, hpz2⟩ := info_parts infoStr
  have HS := hide (Split_one 32 s w hg hs)
  have hlen : ((splitAt 32 s.data.toList).map tx).length ≤ 1000001 := by
    have := splitAt_len 32 s.data.toList
    rw [List.length_map]
    have e := tl_len s
    omega
  have HW : Hid (wordsB s = ((splitAt 32 s.data.toList).map tx).filter fun x => !x.toList.isEmpty) := rfl
  generalize (splitAt 32 s.data.toList).map tx = ps at *
  go_enter Tryd.func66, Tryd.ntmps66
  go_wp2_with fail
  refine HS.out.mono ?_
  rintro e w1 ⟨rfl, rfl⟩
  have hsl : Sl 1 encS (w.alloc (.cells (ps.map Value.string).toArray 9)) (some ⟨w.heap.size, 0, none⟩) ps := Sl.lit encS_len (heap_new _ _) (flat_str ps).symm
  have hb1 : Below w.heap.size w (w.alloc (.cells (ps.map Value.string).toArray 9)) := (Below.refl _ _).alloc (Nat.le_refl _) _
  have hlt1 : w.heap.size < (w.alloc (.cells (ps.map Value.string).toArray 9)).heap.size := by simp
  generalize w.alloc (.cells (ps.map Value.string).toArray 9) = w1 at *
  clear HS
  go_wp2
  go_loopw [3, 9] (fun v i wr => ∃ k : Nat, k ≤ ps.length ∧ i = .int .i64 k ∧ Own 1 encS 9 wr w1.heap.size v ((ps.take k).filter fun x => !x.toList.isEmpty) ∧ Below w1.heap.size w1 wr) (fun _ i _ => ps.length - (intOf i).toNat)
  case atStart => exact ⟨0, by omega, rfl, Own.nil, Below.refl _ _⟩
  case round =>
    obtain ⟨k, hk, rfl, hown, hbl⟩ := hrel
    by_cases hlt : k < ps.length
    · obtain ⟨b, off, x, e1, hbw, hlk, c0⟩ := (hsl.later hbl (Nat.le_refl _)).str hlt
      cases e1
      rw [Nat.zero_add] at c0
      have hfl : ((ps.take k).filter fun x => !x.toList.isEmpty).length ≤ k := by
        have := List.length_filter_le (fun x : ByteArray => !x.toList.isEmpty) (ps.take k)
        rw [List.length_take] at this; omega
      have HT := hide (filter_take_succ (p := fun x : ByteArray => !x.toList.isEmpty) hlk)
      clear hlk
      generalize (ps.take k).filter (fun x => !x.toList.isEmpty) = acc at *
      have f1 : (0 : Int) ≤ (k : Int) ∧ (k : Int) < (ps.length : Int) := by omega
      obtain ⟨f1, f2⟩ := f1
      cases hx : x.toList.isEmpty
      · have HT2 : Hid ((ps.take (k + 1)).filter (fun x => !x.toList.isEmpty) = acc ++ [x]) := by show _ = _; rw [HT.out, hx]; rfl
        have hx2 : (!x.toList.isEmpty) = true := by rw [hx]; rfl
        clear HT hx
        go_wp2_with (at_builtin; refine wpList_append_one encS_len _ _ 25 ip _ rfl rfl Tryd.underlying25 hpi hpz0 hpz1 hpz2 rfl (by decide) (by decide) (hown.alloc _) (hbl.alloc hbl.size _) ?c1 ?c2 rfl x ⟨wr.heap.size, 0, none⟩ 1 rfl ?c3 ?c4 ?_)
        case c1 => have := hbl.size; simp; omega
        case c2 => omega
        case c3 => exact news_cells wr _ rfl
        case c4 => exact one_str x
        intro v' w2 ho hb _ _
        go_wp2
        go_roundw
        case rel => exact ⟨k + 1, by omega, by go_num, by rw [HT2.out]; exact ho, hb⟩
        case measure => simp [intOf]; omega
      · have HT2 : Hid ((ps.take (k + 1)).filter (fun x => !x.toList.isEmpty) = acc) := by show _ = _; rw [HT.out, hx]; simp
        have hx3 : x.toList = [] := by simpa using hx
        clear HT hx
        go_wp2
        go_roundw
        case rel => exact ⟨k + 1, by omega, by go_num, by rw [HT2.out]; exact hown, hbl⟩
        case measure => simp [intOf]; omega
    · obtain rfl : k = ps.length := by omega
      rw [List.take_length] at hown
      go_wp2
      go_ret
      exact ⟨_, rfl, by rw [HW.out]; exact hown.base_le (by omega), hb1.trans (hbl.mono (by omega))⟩
end Go.Proofs.YtjkggijkccbcpaaDoor
/- Plain laws of words: they have no blanks; with one blank between they are read again. -/
namespace Go.Proofs.YtjkggijkccbcpaaDoor
open Go.RowKit

theorem splitAt_app (c : UInt8) : ∀ (A B : List UInt8), splitAt c (A ++ c :: B) = splitAt c A ++ splitAt c B
  | [], B => by simp [splitAt]
  | a :: A, B => by
    rw [List.cons_append]
    have ih := splitAt_app c A B
    by_cases e : a = c
    · subst e
      have h1 : splitAt a (a :: (A ++ a :: B)) = [] :: splitAt a (A ++ a :: B) := by conv => lhs; unfold splitAt; rw [if_pos rfl]
      have h2 : splitAt a (a :: A) = [] :: splitAt a A := by conv => lhs; unfold splitAt; rw [if_pos rfl]
      rw [h1, h2, ih]; rfl
    · cases hs : splitAt c A with
      | nil => exact absurd hs (splitAt_ne _ _)
      | cons h t =>
        have h2 : splitAt c (a :: A) = (a :: h) :: t := by unfold splitAt; rw [if_neg e, hs]
        have h1 : splitAt c (a :: (A ++ c :: B)) = (a :: h) :: (t ++ splitAt c B) := by
          conv => lhs; unfold splitAt
          rw [if_neg e, ih, hs]; rfl
        rw [h1, h2]; rfl
theorem words_app (A B : List UInt8) : wordsL (A ++ 32 :: B) = wordsL A ++ wordsL B := by
  unfold wordsL
  rw [splitAt_app, List.filter_append]
theorem splitAt_mem {c : UInt8} : ∀ {l w : List UInt8}, w ∈ splitAt c l → c ∉ w ∧ w.length ≤ l.length
  | [], w, h => by simp [splitAt] at h; subst h; simp
  | b :: l, w, h => by
    unfold splitAt at h
    by_cases e : b = c
    · rw [if_pos e] at h
      rcases List.mem_cons.1 h with h | h
      · subst h; simp
      · obtain ⟨h1, h2⟩ := splitAt_mem h
        exact ⟨h1, by simp; omega⟩
    · rw [if_neg e] at h
      cases hs : splitAt c l with
      | nil => exact absurd hs (splitAt_ne _ _)
      | cons x t =>
        rw [hs] at h
        rcases List.mem_cons.1 h with h | h
        · subst h
          obtain ⟨h1, h2⟩ := splitAt_mem (w := x) (by rw [hs]; exact List.mem_cons_self)
          exact ⟨fun h => by
            rcases List.mem_cons.1 h with h | h
            · exact e h.symm
            · exact h1 h, by simp; omega⟩
        · obtain ⟨h1, h2⟩ := splitAt_mem (w := w) (by rw [hs]; exact List.mem_cons_of_mem _ h)
          exact ⟨h1, by simp; omega⟩
theorem words_mem {l w : List UInt8} (h : w ∈ wordsL l) : 32 ∉ w ∧ w.length ≤ l.length ∧ w ≠ [] := by
  unfold wordsL at h
  rw [List.mem_filter] at h
  obtain ⟨h1, h2⟩ := splitAt_mem h.1
  exact ⟨h1, h2, by rintro rfl; simp at h⟩
theorem words_len (l : List UInt8) : (wordsL l).length ≤ l.length + 1 := by
  unfold wordsL
  refine Nat.le_trans (List.length_filter_le _ _) ?_
  induction l with
  | nil => simp [splitAt]
  | cons b l ih =>
    unfold splitAt
    split
    · simp; omega
    · split
      · rename_i h t e
        rw [e] at ih
        simp at ih ⊢; omega
      · simp
/-- words with a blank behind each -/
def blanked (ws : List (List UInt8)) : List UInt8 := ws.flatMap fun w => w ++ [32]
theorem words_one {w r : List UInt8} (h : 32 ∉ w) (h0 : w ≠ []) : wordsL (w ++ 32 :: r) = w :: wordsL r := by
  unfold wordsL
  rw [splitAt_yes h, List.filter_cons_of_pos]
  cases w with
  | nil => exact absurd rfl h0
  | cons a t => rfl
theorem words_blanked : ∀ (ws : List (List UInt8)), (∀ w ∈ ws, 32 ∉ w ∧ w ≠ []) → wordsL (blanked ws) = ws
  | [], _ => rfl
  | w :: ws, h => by
    have h1 := h w List.mem_cons_self
    have e : blanked (w :: ws) = w ++ 32 :: blanked ws := by simp [blanked]
    rw [e, words_one h1.1 h1.2, words_blanked ws fun x hx => h x (List.mem_cons_of_mem _ hx)]
theorem blanked_take_succ {ws : List (List UInt8)} {k : Nat} {w : List UInt8} (h : ws[k]? = some w) : blanked (ws.take (k + 1)) = blanked (ws.take k) ++ w ++ [32] := by
  obtain ⟨hlt, hx⟩ := List.getElem?_eq_some_iff.1 h
  unfold blanked
  rw [List.take_succ_eq_append_getElem hlt, hx, List.flatMap_append]
  simp
theorem blanked_len {ws : List (List UInt8)} {n : Nat} (h : ∀ w ∈ ws, w.length ≤ n) (k : Nat) : (blanked (ws.take k)).length ≤ k * (n + 1) := by
  induction k with
  | zero => simp [blanked]
  | succ k ih =>
    by_cases hk : k < ws.length
    · have hw : ws[k]? = some ws[k] := List.getElem?_eq_getElem hk
      rw [blanked_take_succ hw, Nat.succ_mul]
      have := h _ (List.mem_of_getElem? hw)
      simp; omega
    · rw [List.take_of_length_le (by omega)]
      rw [List.take_of_length_le (by omega)] at ih
      rw [Nat.succ_mul]; omega
end Go.Proofs.YtjkggijkccbcpaaDoor
