/- For job.Parse: where a word stands in a list; words, joined again. -/
import Derived.Test.YtjkggijkccbcpaaDoorPair4
import Derived.Test.YtjkggijkccbcpaaDoorBuild
import Derived.Test.YtjkggijkccbcpaaDoorRows
import Derived.Test.YtjkggijkccbcpaaDoorJourLaw
import Derived.Test.YtjkggijkccbcpaaDoorJRule
import Derived.Test.YtjkggijkccbcpaaDoorJText3
import Derived.Lib.Join
set_option linter.unusedSimpArgs false
set_option linter.unusedVariables false
/- Pairs: a text as pairs: the program's reading, the document's. -/
namespace Go.Proofs.YtjkggijkccbcpaaDoor
open Go.RowKit

/-- what one step of the readers comes to -/
inductive StepP (r : List UInt8) : Prop where
  | head (h : ((cutAt 58 r).2.2 && numOk (cutAt 58 r).1) = false) (e : oneP r = none)
  | neg (h : ((cutAt 58 r).2.2 && numOk (cutAt 58 r).1) = true) (hn : atoiV (cutAt 58 r).1 < 0) (e : oneP r = none)
  | long (h : ((cutAt 58 r).2.2 && numOk (cutAt 58 r).1) = true) (n : Nat) (hn : atoiV (cutAt 58 r).1 = n) (hl : (cutAt 58 r).2.1.length ≤ n) (e : oneP r = none)
  | blank (h : ((cutAt 58 r).2.2 && numOk (cutAt 58 r).1) = true) (n : Nat) (hn : atoiV (cutAt 58 r).1 = n) (hl : n < (cutAt 58 r).2.1.length) (c : UInt8) (hc : (cutAt 58 r).2.1[n]? = some c) (h32 : c ≠ 32) (e : oneP r = none)
  | val (h : ((cutAt 58 r).2.2 && numOk (cutAt 58 r).1) = true) (n : Nat) (hn : atoiV (cutAt 58 r).1 = n) (hl : n < (cutAt 58 r).2.1.length) (hc : (cutAt 58 r).2.1[n]? = some 32)
      (h2 : ((cutAt 10 ((cutAt 58 r).2.1.drop (n + 1))).2.2 && numOk (cutAt 10 ((cutAt 58 r).2.1.drop (n + 1))).1) = false) (e : oneP r = none)
  | ok (h : ((cutAt 58 r).2.2 && numOk (cutAt 58 r).1) = true) (n : Nat) (hn : atoiV (cutAt 58 r).1 = n) (hl : n < (cutAt 58 r).2.1.length) (hc : (cutAt 58 r).2.1[n]? = some 32)
      (h2 : ((cutAt 10 ((cutAt 58 r).2.1.drop (n + 1))).2.2 && numOk (cutAt 10 ((cutAt 58 r).2.1.drop (n + 1))).1) = true)
      (e : oneP r = some ((tx ((cutAt 58 r).2.1.take n), atoiV (cutAt 10 ((cutAt 58 r).2.1.drop (n + 1))).1), (cutAt 10 ((cutAt 58 r).2.1.drop (n + 1))).2.1))
theorem numOk_none {l : List UInt8} (h : numOk l = false) : numS l = none := by
  unfold numOk at h
  cases hn : numS l with
  | none => rfl
  | some v => rw [hn] at h; cases h
theorem stepP (r : List UInt8) : StepP r := by
  cases h : ((cutAt 58 r).2.2 && numOk (cutAt 58 r).1) with
  | false =>
    refine .head h ?_
    have : headP r = none := by
      unfold headP
      cases hk : numOk (cutAt 58 r).1 with
      | false => rw [numOk_none hk]
      | true =>
        rw [numOk_val hk]
        rw [hk, Bool.and_true] at h
        simp only
        rw [if_neg]
        rintro ⟨h1, _⟩
        rw [h] at h1; cases h1
    unfold oneP; rw [this]
  | true =>
    have h' := h
    simp only [Bool.and_eq_true] at h'
    obtain ⟨h1, h2⟩ := h'
    have hv := numOk_val h2
    by_cases hn : atoiV (cutAt 58 r).1 < 0
    · refine .neg h hn ?_
      have : headP r = none := by
        unfold headP
        rw [hv]
        simp only
        rw [if_neg]
        rintro ⟨_, h3, _⟩; omega
      unfold oneP; rw [this]
    · obtain ⟨n, hn'⟩ : ∃ n : Nat, atoiV (cutAt 58 r).1 = n := ⟨(atoiV (cutAt 58 r).1).toNat, by omega⟩
      by_cases hl : n < (cutAt 58 r).2.1.length
      · obtain ⟨c, hc⟩ : ∃ c, (cutAt 58 r).2.1[n]? = some c := ⟨_, List.getElem?_eq_getElem hl⟩
        by_cases h32 : c = 32
        · subst h32
          have hh : headP r = some ((cutAt 58 r).2.1.take n, (cutAt 58 r).2.1.drop (n + 1)) := by
            unfold headP
            rw [hv, hn']
            simp only
            rw [if_pos ⟨h1, by omega, by omega, by rw [Int.toNat_natCast]; exact hc⟩, Int.toNat_natCast]
          cases h3 : ((cutAt 10 ((cutAt 58 r).2.1.drop (n + 1))).2.2 && numOk (cutAt 10 ((cutAt 58 r).2.1.drop (n + 1))).1) with
          | false =>
            refine .val h n hn' hl hc h3 ?_
            have : valP ((cutAt 58 r).2.1.drop (n + 1)) = none := by
              unfold valP
              cases hk : numOk (cutAt 10 ((cutAt 58 r).2.1.drop (n + 1))).1 with
              | false => rw [numOk_none hk]
              | true =>
                rw [numOk_val hk]
                rw [hk, Bool.and_true] at h3
                simp only
                rw [if_neg]
                intro h4; rw [h3] at h4; cases h4
            unfold oneP; rw [hh]; simp only; rw [this]
          | true =>
            refine .ok h n hn' hl hc h3 ?_
            have h3' := h3
            simp only [Bool.and_eq_true] at h3'
            unfold oneP
            rw [hh]
            simp only
            unfold valP
            rw [numOk_val h3'.2]
            simp only
            rw [if_pos h3'.1]
        · refine .blank h n hn' hl c hc h32 ?_
          have : headP r = none := by
            unfold headP
            rw [hv, hn']
            simp only
            rw [if_neg]
            rintro ⟨_, _, _, h4⟩
            rw [Int.toNat_natCast, hc] at h4
            exact h32 (by simpa using h4)
          unfold oneP; rw [this]
      · refine .long h n hn' (by omega) ?_
        have : headP r = none := by
          unfold headP
          rw [hv, hn']
          simp only
          rw [if_neg]
          rintro ⟨_, _, h3, _⟩; omega
        unfold oneP; rw [this]
theorem parse_acc {S r : List UInt8} {acc : List Pr} (h : parseP S = (parseP r).map (acc ++ ·)) (ho : oneP r = none) (hr : r ≠ []) : parseP S = none := by rw [h, parseP_none hr ho]; rfl
theorem parse_more {S r m : List UInt8} {acc : List Pr} {p : Pr} (h : parseP S = (parseP r).map (acc ++ ·)) (ho : oneP r = some (p, m)) : parseP S = (parseP m).map ((acc ++ [p]) ++ ·) := by
  rw [h, parseP_some ho]
  cases parseP m <;> simp
theorem parse_end {S : List UInt8} {acc : List Pr} (h : parseP S = (parseP []).map (acc ++ ·)) : parseP S = some acc := by rw [h, parseP_nil]; simp
def strLen : Value → Nat
  | .string s => s.size
  | _ => 0
theorem tx_at {l : List UInt8} {n : Nat} {c : UInt8} (h : l[n]? = some c) (hn : n < (tx l).size) : (tx l)[n] = c := by
  have h2 := (List.getElem?_eq_some_iff.1 h).2
  rw [← h2]
  simp [tx, ByteArray.getElem_eq_getElem_data]
theorem tx_extD (l : List UInt8) (n : Nat) : (tx l).extract n (tx l).size = tx (l.drop n) := by
  have := tx_drop (tx l) n
  rw [tx_list] at this
  exact this.symm
theorem tx_extT (l : List UInt8) (n : Nat) : (tx l).extract 0 n = tx (l.take n) := by
  have := tx_take (tx l) n
  rw [tx_list] at this
  exact this.symm
/-- what a reader hands back -/
def ParsePost (S : List UInt8) (ev ok : Value) (w : World) (e : Ending) (w' : World) : Prop :=
  (∃ v, e = .returned (.tuple #[v, if (parseP S).isSome = true then ok else ev]) ∧ Own 2 encP 70 w' w.heap.size v ((parseP S).getD [])) ∧ Below w.heap.size w w'
theorem ParsePost.bad {S : List UInt8} {ev ok : Value} {w w' : World} (h : parseP S = none) (hb : Below w.heap.size w w') : ParsePost S ev ok w (.returned (.tuple #[.slice none 0 0, ev])) w' := by
  unfold ParsePost
  rw [h]
  exact ⟨⟨_, rfl, Own.nil⟩, hb⟩
theorem ParsePost.good {S : List UInt8} {ev ok v : Value} {w w' : World} {l : List Pr} (h : parseP S = some l) (ho : Own 2 encP 70 w' w.heap.size v l) (hb : Below w.heap.size w w') : ParsePost S ev ok w (.returned (.tuple #[v, ok])) w' := by
  unfold ParsePost
  rw [h]
  exact ⟨⟨v, rfl, ho⟩, hb⟩
end Go.Proofs.YtjkggijkccbcpaaDoor
/- The reference SameNumbers at two equal lists. -/
namespace Go.Proofs.YtjkggijkccbcpaaDoor
open Go.RowKit
theorem infoInt : (Tryd.prog.info? 3).map (fun i => (i.zero, i.size, i.bytes)) = some (some (.int .i64 0), 1, 8) := by kernel_rfl
theorem encInt_len (x : Int) : (encInt x).length = 1 := rfl
end Go.Proofs.YtjkggijkccbcpaaDoor
/- The journal: the numbers behind a kind: numbers and the reference figures. -/
namespace Go.Proofs.YtjkggijkccbcpaaDoor
open Go.RowKit

def numsV (S : List UInt8) : List Int := (numsS S).getD []
def NumsPost (S : List UInt8) (w : World) (e : Ending) (w' : World) : Prop :=
  (∃ ao cap, e = .returned (.tuple #[.slice ao (numsV S).length cap, .bool (numsS S).isSome]) ∧ Own 1 encInt 3 w' w.heap.size (.slice ao (numsV S).length cap) (numsV S)) ∧ Below w.heap.size w w'
theorem NumsPost.bad {S : List UInt8} {w w' : World} (h : numsS S = none) (hb : Below w.heap.size w w') : NumsPost S w (.returned (.tuple #[.slice none 0 0, .bool false])) w' := by
  unfold NumsPost numsV
  rw [h]
  exact ⟨⟨none, 0, rfl, Own.nil⟩, hb⟩
theorem NumsPost.good {S : List UInt8} {w w' : World} {v : Value} {N : List Int} (h : numsS S = some N) (ho : Own 1 encInt 3 w' w.heap.size v N) (hb : Below w.heap.size w w') : NumsPost S w (.returned (.tuple #[v, .bool true])) w' := by
  obtain ⟨⟨ao, cap, rfl⟩, _⟩ := id ho
  unfold NumsPost numsV
  rw [h]
  exact ⟨⟨ao, cap, rfl, ho⟩, hb⟩
theorem splitAt_word (c : UInt8) : ∀ (n : Nat) (l : List UInt8), l.length ≤ n → ∀ w ∈ splitAt c l, w.length ≤ l.length
  | 0, l, h, w, hw => by
    obtain rfl := List.length_eq_zero_iff.1 (Nat.le_zero.1 h)
    rw [splitAt_no (by simp)] at hw
    rw [List.mem_singleton.1 hw]; exact Nat.le_refl _
  | n + 1, l, h, w, hw => by
    rcases first_of c l with hc | ⟨A, B, rfl, hA⟩
    · rw [splitAt_no hc] at hw
      rw [List.mem_singleton.1 hw]; exact Nat.le_refl _
    · rw [splitAt_yes hA] at hw
      rw [List.length_append, List.length_cons] at h ⊢
      rcases List.mem_cons.1 hw with e | e
      · rw [e]; omega
      · have := splitAt_word c n B (by omega) w e
        omega
theorem numsL_drop {ws : List (List UInt8)} {k : Nat} {x : List UInt8} (h : ws[k]? = some x) : numsL (ws.drop k) = (numS x).bind fun n => (numsL (ws.drop (k + 1))).map (n :: ·) := by
  obtain ⟨hlt, hx⟩ := List.getElem?_eq_some_iff.1 h
  rw [List.drop_eq_getElem_cons hlt, hx, numsL_cons]
theorem numsL_acc {ws : List (List UInt8)} {k : Nat} {x : List UInt8} {acc : List Int} {r : Option (List Int)} (hr : r = (numsL (ws.drop k)).map (acc ++ ·)) (h : ws[k]? = some x) :
    (numOk x = false → r = none) ∧ (numOk x = true → r = (numsL (ws.drop (k + 1))).map ((acc ++ [atoiV x]) ++ ·)) := by
  rw [numsL_drop h] at hr
  constructor
  · intro h1
    rw [numOk_none h1] at hr
    exact hr
  · intro h1
    rw [numOk_val h1] at hr
    rw [hr]
    cases numsL (List.drop (k + 1) ws) <;> simp
theorem splitAt_count (c : UInt8) (l : List UInt8) : (splitAt c l).length ≤ l.length + 1 := splitAt_len c l
theorem figs_step {S : List UInt8} {i m : Nat} {acc : List Int} {r : Option (List Int)} (hr : r = (numsS (S.drop i)).map (acc ++ ·)) (hc : S[i]? = some 32) (hw : (32 : UInt8) ∉ (S.drop (i + 1)).take m) (he : S.drop (i + 1 + m) = [] ∨ (S.drop (i + 1 + m)).head? = some 32) :
    (numOk ((S.drop (i + 1)).take m) = false → r = none) ∧ (numOk ((S.drop (i + 1)).take m) = true → r = (numsS (S.drop (i + 1 + m))).map ((acc ++ [atoiV ((S.drop (i + 1)).take m)]) ++ ·)) := by
  obtain ⟨hlt, hx⟩ := List.getElem?_eq_some_iff.1 hc
  have h1 : S.drop i = 32 :: ((S.drop (i + 1)).take m ++ S.drop (i + 1 + m)) := by
    rw [List.drop_eq_getElem_cons hlt, hx, ← List.drop_drop (j := i + 1), List.take_append_drop]
  rw [h1, numsS_cons hw he] at hr
  constructor
  · intro h2
    rw [numOk_none h2] at hr
    exact hr
  · intro h2
    rw [numOk_val h2] at hr
    rw [hr]
    cases numsS (S.drop (i + 1 + m)) <;> simp
theorem tx_mid {S : List UInt8} {p : Nat} {c : UInt8} (h : S[p]? = some c) : (tx S).extract p (p + 1) = tx [c] := by
  obtain ⟨hlt, hx⟩ := List.getElem?_eq_some_iff.1 h
  apply tl_inj
  rw [tl, tl, tx_list]
  simp only [tx, ByteArray.data_extract, List.extract_toArray, List.extract_eq_take_drop]
  rw [List.drop_eq_getElem_cons hlt, hx, show p + 1 - p = 1 by omega]
  rfl
theorem take_tx {S : List UInt8} {a m : Nat} {c : UInt8} (h : S[a + m]? = some c) : tx ((S.drop a).take m) ++ tx [c] = tx ((S.drop a).take (m + 1)) := by
  have h2 : (S.drop a)[m]? = some c := by rw [List.getElem?_drop]; exact h
  obtain ⟨hlt, hx⟩ := List.getElem?_eq_some_iff.1 h2
  rw [List.take_succ_eq_append_getElem hlt, hx]
  apply tl_inj
  rw [tl, tl, tx_list]
  simp [tx, ByteArray.data_append]
end Go.Proofs.YtjkggijkccbcpaaDoor
namespace Go.Proofs.YtjkggijkccbcpaaDoor
open Go.RowKit

/-- where x stands first; below 0: nowhere -/
def IsIdx (l : List ByteArray) (x : ByteArray) (r : Int) : Prop := (∃ k : Nat, r = k ∧ l[k]? = some x ∧ ∀ i, i < k → l[i]? ≠ some x) ∨ (r = -1 ∧ ∀ i : Nat, l[i]? ≠ some x)
def IdxPost (l : List ByteArray) (x : ByteArray) (w : World) (e : Ending) (w' : World) : Prop := (∃ r, e = .returned (.int .i64 r) ∧ IsIdx l x r) ∧ Below w.heap.size w w'
set_option maxRecDepth 100000 in
theorem IndexS_any (ao : Option Addr) (cap : Nat) (l : List ByteArray) (x : ByteArray) (w : World) (hl : l.length ≤ 1000000) (hs : Sl 1 encS w ao l) :
    Calls Tryd.prog 30 #[.slice ao l.length cap, .string x] w (IdxPost l x w) := by
  have HS := hide hs
  clear hs
  go_enter Tryd.func30, Tryd.ntmps30
  go_wp2
  go_loopw [8] (fun iv wr => ∃ k : Nat, k ≤ l.length ∧ iv = .int .i64 k ∧ Hid (∀ i, i < k → l[i]? ≠ some x) ∧ Hid (Below w.heap.size w wr)) (fun iv _ => l.length - (intOf iv).toNat)
  case atStart => exact ⟨0, by omega, rfl, (fun i h => by omega), Below.refl _ _⟩
  case round =>
    obtain ⟨k, hk, rfl, HN, HB⟩ := hrel
    by_cases hlt : k < l.length
    · obtain ⟨b, off, y, rfl, hbw, hlk, c0⟩ := (HS.out.later HB.out (Nat.le_refl _)).str hlt
      have f1 : (0 : Int) ≤ (k : Int) ∧ (k : Int) < (l.length : Int) := by omega
      obtain ⟨f1, f2⟩ := f1
      by_cases hxy : x = y
      · have HP : Hid (IsIdx l x k) := hide (show IsIdx l x k from Or.inl ⟨k, rfl, by rw [hlk, hxy], HN.out⟩)
        have g1 : (x.toList == y.toList) = true := by rw [hxy]; exact beqq _
        clear hlk hxy HN
        go_wp2
        go_ret
        exact ⟨⟨_, rfl, HP.out⟩, HB.out⟩
      · have HN2 : Hid (∀ i, i < k + 1 → l[i]? ≠ some x) := fun i hi => by
          by_cases e : i = k
          · subst e; rw [hlk]; intro h; cases h; exact hxy rfl
          · exact HN.out i (by omega)
        have g1 := bneq hxy
        clear hlk hxy HN
        go_wp2
        go_roundw
        case rel => exact ⟨k + 1, by omega, by go_num, HN2, HB⟩
        case measure => (simp [intOf]; try omega)
    · have HP := hide (show IsIdx l x (-1) from Or.inr ⟨rfl, fun i => by
        by_cases hi : i < k
        · exact HN.out i hi
        · rw [List.getElem?_eq_none (by omega)]; simp⟩)
      go_wp2
      go_ret
      exact ⟨⟨_, rfl, HP.out⟩, HB.out⟩
theorem foldN_idx {w : List UInt8} {r : Int} (h : IsIdx foldsL (tx w) r) : max 0 r = foldN w ∧ r ≤ 4 := by
  have e0 : ∀ k : Int, (tx (foldK k) = tx w) → foldK k = w := fun k h => tx_inj h
  rcases h with ⟨k, rfl, h1, h2⟩ | ⟨rfl, h2⟩
  · have hk : k < 5 := (List.getElem?_eq_some_iff.1 h1).1
    have hn : ∀ j : Nat, 1 ≤ j → j < k → foldK j ≠ w := fun j h3 h4 e => by
      have h5 : foldsL[j]? = some (tx (foldK j)) := by
        have : j = 1 ∨ j = 2 ∨ j = 3 ∨ j = 4 := by omega
        rcases this with rfl | rfl | rfl | rfl <;> rfl
      exact h2 j h4 (by rw [h5, e])
    have : k = 0 ∨ k = 1 ∨ k = 2 ∨ k = 3 ∨ k = 4 := by omega
    rcases this with rfl | rfl | rfl | rfl | rfl
    · have e : w = [] := (tx_inj (Option.some.inj h1)).symm
      subst e
      exact ⟨by decide, by decide⟩
    all_goals
      have e := (tx_inj (Option.some.inj h1)).symm
      subst e
      exact ⟨by decide, by decide⟩
  · refine ⟨?_, by decide⟩
    have hn : ∀ j : Nat, 1 ≤ j → j ≤ 4 → w ≠ foldK j := fun j h3 h4 e => by
      have h5 : foldsL[j]? = some (tx (foldK j)) := by
        have : j = 1 ∨ j = 2 ∨ j = 3 ∨ j = 4 := by omega
        rcases this with rfl | rfl | rfl | rfl <;> rfl
      exact h2 j (by rw [h5, ← e])
    unfold foldN
    rw [if_neg (show w ≠ foldK 1 from hn 1 (by decide) (by decide)), if_neg (show w ≠ foldK 2 from hn 2 (by decide) (by decide)), if_neg (show w ≠ foldK 3 from hn 3 (by decide) (by decide)), if_neg (show w ≠ foldK 4 from hn 4 (by decide) (by decide))]
    rfl
theorem join_cons (c : UInt8) (h : List UInt8) (t : List (List UInt8)) (ht : t ≠ []) : Lib.join (h :: t) [c] = h ++ c :: Lib.join t [c] := by
  cases t with
  | nil => exact absurd rfl ht
  | cons u t => simp [Lib.join, List.intercalate, List.intersperse]
theorem join_split (c : UInt8) : ∀ (n : Nat) (l : List UInt8), l.length ≤ n → Lib.join (splitAt c l) [c] = l := by
  intro n
  induction n with
  | zero =>
    intro l hl
    have : l = [] := List.length_eq_zero_iff.1 (by omega)
    subst this
    rfl
  | succ n ih =>
    intro l hl
    rcases first_of c l with h | ⟨A, B, rfl, hA⟩
    · rw [splitAt_no h]; simp [Lib.join]
    · rw [splitAt_yes hA, join_cons c A _ (splitAt_ne _ _), ih B (by simp at hl; omega)]
/-- all but the first word -/
theorem join_rest (l : List UInt8) : ∃ ws, splitAt 32 l = (wordR l).1 :: ws ∧ Lib.join ws [32] = (wordR l).2 := by
  unfold wordR
  rcases first_of 32 l with h | ⟨A, B, rfl, hA⟩
  · rw [splitAt_no h, cutAt_no h]
    exact ⟨[], rfl, rfl⟩
  · rw [splitAt_yes hA, cutAt_yes hA]
    exact ⟨_, rfl, join_split 32 _ B (Nat.le_refl _)⟩
theorem join_tx (ws : List (List UInt8)) (sep : List UInt8) : Lib.join ((ws.map tx).map (·.data.toList)) sep = Lib.join ws sep := by
  congr 1
  rw [List.map_map]
  conv => rhs; rw [← List.map_id ws]
  exact List.map_congr_left fun x _ => tx_list x
theorem JoinS_any (ao : Option Addr) (cap : Nat) (ws : List (List UInt8)) (w : World) (hn : (Lib.join ws [32]).length ≤ 1000000) (hl : ws.length ≤ 1000000) (hc : ws.length ≤ cap) (hs : Sl 1 encS w ao (ws.map tx)) :
    Calls Tryd.prog 32 #[.slice ao ws.length cap, .string ⟨#[32]⟩] w fun e w' => e = .returned (.string (tx (Lib.join ws [32]))) ∧ Below w.heap.size w w' := by
  rcases Nat.eq_zero_or_pos ws.length with h0 | h0
  · have := List.length_eq_zero_iff.1 h0
    subst this
    refine (Tryd.strings_Join_none ao cap ⟨#[32]⟩ w).mono ?_
    rintro e w' ⟨rfl, rfl⟩
    exact ⟨rfl, Below.refl _ _⟩
  · obtain ⟨b, off, rfl, hlt, hc2⟩ := hs (by rw [List.length_map]; exact h0)
    have hj : Lib.join ((ws.map tx).map (·.data.toList)) (⟨#[32]⟩ : ByteArray).data.toList = Lib.join ws [32] := join_tx ws [32]
    have h := Tryd.strings_Join b off cap (ws.map tx) ⟨#[32]⟩ w (fun j x hx => by have := hc2 j x 0 _ hx rfl; simpa using this) hlt (by rw [List.length_map]; omega) (by rw [List.length_map]; exact hc) (by rw [hj]; omega)
    rw [hj, List.length_map] at h
    exact h
theorem trim10_eq (s : List UInt8) : Lib.trimSuffix s [10] = trim10 s := by
  unfold Lib.trimSuffix trim10 Lib.hasSuffix
  rcases List.eq_nil_or_concat s with rfl | ⟨l, x, rfl⟩
  · rfl
  · rw [List.concat_eq_append, List.getLast?_concat, List.dropLast_concat]
    by_cases h : x = 10
    · subst h
      have : [10].isSuffixOf (l ++ [(10 : UInt8)]) = true := by simp
      rw [if_pos this, if_pos rfl]
      simp
    · have : [10].isSuffixOf (l ++ [x]) = false := by
        rw [Bool.eq_false_iff]
        intro h2
        rw [List.isSuffixOf_iff_suffix] at h2
        obtain ⟨t, ht⟩ := h2
        have := List.append_inj_right' ht rfl
        simp at this
        exact h this.symm
      rw [this]
      simp [h]
end Go.Proofs.YtjkggijkccbcpaaDoor
