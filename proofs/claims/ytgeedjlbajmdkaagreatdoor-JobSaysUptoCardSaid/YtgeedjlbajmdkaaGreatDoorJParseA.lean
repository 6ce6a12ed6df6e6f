/- For job.Parse: where a word stands in a list; words, joined again. -/
import Derived.Test.YtgeedjlbajmdkaaGreatDoorPair2
import Derived.Test.YtgeedjlbajmdkaaGreatDoorBuild
import Derived.Test.YtgeedjlbajmdkaaGreatDoorRows
import Derived.Test.YtgeedjlbajmdkaaGreatDoorPair5
import Derived.Test.YtgeedjlbajmdkaaGreatDoorJRule
import Derived.Test.YtgeedjlbajmdkaaGreatDoorJText3
import Derived.Lib.Join
set_option linter.unusedSimpArgs false
set_option linter.unusedVariables false
/- The journal: what the text of entries is, and what is read of a text. -/
namespace Go.Proofs.YtgeedjlbajmdkaaGreatDoor
open Go.RowKit

abbrev En := ByteArray × List Int × List ByteArray
def numsT (N : List Int) : List UInt8 := N.flatMap fun n => 32 :: Lib.itoa n
def sizesOf (T : List ByteArray) : List Int := T.map fun t => (t.size : Int)
def joinT (T : List ByteArray) : List UInt8 := T.flatMap fun t => t.data.toList
def entT (e : En) : List UInt8 := (e.1.data.toList ++ numsT e.2.1 ++ 59 :: numsT (sizesOf e.2.2)) ++ 10 :: (joinT e.2.2 ++ [46])

def numsL : List (List UInt8) → Option (List Int)
  | [] => some []
  | w :: ws => (numS w).bind fun n => (numsL ws).map (n :: ·)
def numsS : List UInt8 → Option (List Int)
  | [] => some []
  | c :: r => if c = 32 then numsL (splitAt 32 r) else none
def takeS : List Int → List UInt8 → Option (List ByteArray × List UInt8)
  | [], r => some ([], r)
  | k :: ks, r => if k < 0 ∨ (r.length : Int) < k then none else (takeS ks (r.drop k.toNat)).map fun x => (tx (r.take k.toNat) :: x.1, x.2)
/-- the dot behind the texts -/
def dotS : List UInt8 → Option (List UInt8)
  | 46 :: r => some r
  | _ => none
def oneE (s : List UInt8) : Option (En × List UInt8) :=
  if (cutAt 10 s).2.2 = true ∧ (cutAt 59 (cutAt 10 s).1).2.2 = true ∧ (cutAt 32 (cutAt 59 (cutAt 10 s).1).1).1 ≠ [] then
    (numsS ((cutAt 59 (cutAt 10 s).1).1.drop (cutAt 32 (cutAt 59 (cutAt 10 s).1).1).1.length)).bind fun n =>
      (numsS (cutAt 59 (cutAt 10 s).1).2.1).bind fun z =>
        (takeS z (cutAt 10 s).2.1).bind fun T => (dotS T.2).map fun r => ((tx (cutAt 32 (cutAt 59 (cutAt 10 s).1).1).1, n, T.1), r)
  else none

theorem numsL_nil : numsL [] = some [] := by unfold numsL; rfl
theorem numsL_cons (w : List UInt8) (ws : List (List UInt8)) : numsL (w :: ws) = (numS w).bind fun n => (numsL ws).map (n :: ·) := by conv => lhs; unfold numsL
theorem takeS_nil (r : List UInt8) : takeS [] r = some ([], r) := by unfold takeS; rfl
theorem takeS_cons (k : Int) (ks : List Int) (r : List UInt8) : takeS (k :: ks) r = if k < 0 ∨ (r.length : Int) < k then none else (takeS ks (r.drop k.toNat)).map fun x => (tx (r.take k.toNat) :: x.1, x.2) := by conv => lhs; unfold takeS
/-- one number ahead -/
theorem numsS_cons {w r : List UInt8} (hw : (32 : UInt8) ∉ w) (hr : r = [] ∨ r.head? = some 32) : numsS (32 :: (w ++ r)) = (numS w).bind fun n => (numsS r).map (n :: ·) := by
  show (if (32 : UInt8) = 32 then numsL (splitAt 32 (w ++ r)) else none) = _
  rw [if_pos rfl]
  rcases r with _ | ⟨c, r⟩
  · rw [List.append_nil, splitAt_no hw, numsL_cons]
    rfl
  · obtain rfl : c = 32 := by simpa using hr
    rw [splitAt_yes hw, numsL_cons]
    show _ = (numS w).bind fun n => (if (32 : UInt8) = 32 then numsL (splitAt 32 r) else none).map (n :: ·)
    rw [if_pos rfl]
theorem numsT_cons (n : Int) (N : List Int) : numsT (n :: N) = 32 :: (Lib.itoa n ++ numsT N) := by simp [numsT]
theorem numsT_head (N : List Int) : numsT N = [] ∨ (numsT N).head? = some 32 := by
  rcases N with _ | ⟨n, N⟩
  · left; rfl
  · right; rw [numsT_cons]; rfl
def i64s (N : List Int) : Prop := ∀ n ∈ N, -9223372036854775808 ≤ n ∧ n ≤ 9223372036854775807
theorem numsS_text : ∀ (N : List Int), i64s N → numsS (numsT N) = some N
  | [], _ => rfl
  | n :: N, h => by
    rw [numsT_cons, numsS_cons (itoa_not (by decide) (by decide)) (numsT_head N), num_iff.2 ⟨h n List.mem_cons_self, rfl⟩, numsS_text N fun x hx => h x (List.mem_cons_of_mem _ hx)]
    rfl
theorem numsT_not {c : UInt8} {N : List Int} (h32 : c ≠ 32) (h45 : c ≠ 45) (hd : isDig c = false) : c ∉ numsT N := by
  intro hc
  obtain ⟨n, _, hn⟩ := List.mem_flatMap.1 hc
  rcases List.mem_cons.1 hn with e | e
  · exact h32 e
  · exact itoa_not h45 hd e
theorem joinT_cons (t : ByteArray) (T : List ByteArray) : joinT (t :: T) = t.data.toList ++ joinT T := by simp [joinT]
theorem takeS_text : ∀ (T : List ByteArray) (r : List UInt8), takeS (sizesOf T) (joinT T ++ r) = some (T, r)
  | [], r => by show takeS [] r = _; rw [takeS_nil]
  | t :: T, r => by
    have hl : t.data.toList.length = t.size := Array.length_toList
    rw [show sizesOf (t :: T) = (t.size : Int) :: sizesOf T from rfl, takeS_cons, joinT_cons, List.append_assoc, if_neg (by rw [List.length_append, hl]; omega)]
    rw [show ((t.size : Int)).toNat = t.data.toList.length by rw [hl]; omega, List.drop_left, List.take_left, takeS_text T r]
    simp [tx_of]
/-- a kind that may be: some bytes, none of which ends it -/
structure KindOk (k : ByteArray) : Prop where
  ne : k.data.toList ≠ []
  no10 : (10 : UInt8) ∉ k.data.toList
  no59 : (59 : UInt8) ∉ k.data.toList
  no32 : (32 : UInt8) ∉ k.data.toList
theorem cut_kind {k : ByteArray} {N : List Int} (hk : KindOk k) : (cutAt 32 (k.data.toList ++ numsT N)).1 = k.data.toList := by
  rcases N with _ | ⟨n, N⟩
  · rw [show numsT [] = [] from rfl, List.append_nil, cutAt_no hk.no32]
  · rw [numsT_cons, cutAt_yes hk.no32]
theorem oneE_text {e : En} (hk : KindOk e.1) (hn : i64s e.2.1) (hs : i64s (sizesOf e.2.2)) (r : List UInt8) : oneE (entT e ++ r) = some (e, r) := by
  obtain ⟨k, N, T⟩ := e
  dsimp only at hk hn hs
  have h1 : cutAt 10 (entT (k, N, T) ++ r) = (k.data.toList ++ numsT N ++ 59 :: numsT (sizesOf T), joinT T ++ [46] ++ r, true) := by
    unfold entT
    dsimp only
    rw [List.append_assoc _ (10 :: _) r, List.cons_append]
    refine cutAt_yes ?_
    simp only [List.mem_append, List.mem_cons, not_or]
    exact ⟨⟨hk.no10, numsT_not (by decide) (by decide) (by decide)⟩, by decide, numsT_not (by decide) (by decide) (by decide)⟩
  have h2 : cutAt 59 (k.data.toList ++ numsT N ++ 59 :: numsT (sizesOf T)) = (k.data.toList ++ numsT N, numsT (sizesOf T), true) := by
    refine cutAt_yes ?_
    simp only [List.mem_append, not_or]
    exact ⟨hk.no59, numsT_not (by decide) (by decide) (by decide)⟩
  unfold oneE
  rw [h1]
  dsimp only
  rw [h2]
  dsimp only
  rw [cut_kind hk, if_pos ⟨rfl, rfl, hk.ne⟩, List.drop_left, numsS_text N hn, numsS_text _ hs, List.append_assoc]
  simp only [Option.bind_some]
  rw [takeS_text]
  simp [dotS, tx_of]
/-- what is behind is shorter -/
theorem takeS_len : ∀ (z : List Int) (r : List UInt8) (x), takeS z r = some x → x.2.length ≤ r.length
  | [], r, x, h => by rw [takeS_nil] at h; cases h; exact Nat.le_refl _
  | k :: z, r, x, h => by
    rw [takeS_cons] at h
    split at h
    · cases h
    · obtain ⟨y, hy, rfl⟩ := Option.map_eq_some_iff.1 h
      have := takeS_len z _ y hy
      rw [List.length_drop] at this
      show y.2.length ≤ _
      omega
theorem dotS_some {l r : List UInt8} (h : dotS l = some r) : l = 46 :: r := by
  unfold dotS at h
  split at h
  · cases h; rfl
  · cases h
theorem oneE_len {s r : List UInt8} {e : En} (h : oneE s = some (e, r)) : r.length < s.length := by
  unfold oneE at h
  split at h
  · obtain ⟨n, _, h⟩ := Option.bind_eq_some_iff.1 h
    obtain ⟨z, _, h⟩ := Option.bind_eq_some_iff.1 h
    obtain ⟨T, h1, h⟩ := Option.bind_eq_some_iff.1 h
    obtain ⟨r', h2, h⟩ := Option.map_eq_some_iff.1 h
    cases h
    have h3 := takeS_len _ _ _ h1
    rw [dotS_some h2, List.length_cons] at h3
    have h4 := (cutAt_len 10 s).1
    omega
  · cases h
def parseEF : Nat → List UInt8 → List En
  | 0, _ => []
  | n + 1, s => match oneE s with
    | some (e, r) => e :: parseEF n r
    | none => []
theorem parseEF_more : ∀ (n m : Nat) (s : List UInt8), s.length < n → s.length < m → parseEF n s = parseEF m s
  | 0, _, _, h, _ => by omega
  | _, 0, _, _, h => by omega
  | n + 1, m + 1, s, h1, h2 => by
    unfold parseEF
    split
    · rename_i e r hs
      have := oneE_len hs
      rw [parseEF_more n m r (by omega) (by omega)]
    · rfl
def parseE (s : List UInt8) : List En := parseEF (s.length + 1) s
theorem parseE_none {s : List UInt8} (h : oneE s = none) : parseE s = [] := by
  unfold parseE parseEF; rw [h]
theorem parseE_some {s r : List UInt8} {e : En} (h : oneE s = some (e, r)) : parseE s = e :: parseE r := by
  have hl := oneE_len h
  show parseEF (s.length + 1) s = _
  unfold parseEF
  rw [h]
  show e :: parseEF s.length r = _
  rw [parseEF_more s.length (r.length + 1) r hl (by omega)]
  rfl
theorem oneE_nil : oneE [] = none := by
  unfold oneE
  rw [if_neg]
  rw [cutAt_no (by simp)]
  simp
theorem take_part : ∀ (T : List ByteArray) (m : Nat), m ≤ (joinT T).length → (takeS (sizesOf T) ((joinT T).take m)).bind (fun x => dotS x.2) = none
  | [], m, h => by
    show (takeS [] _).bind _ = _
    rw [takeS_nil]
    rw [show joinT [] = [] from rfl, List.take_nil]
    rfl
  | t :: T, m, h => by
    have hl : t.data.toList.length = t.size := Array.length_toList
    rw [joinT_cons, List.length_append, hl] at h
    rw [show sizesOf (t :: T) = (t.size : Int) :: sizesOf T from rfl, takeS_cons, joinT_cons]
    by_cases hm : m < t.size
    · rw [if_pos (by right; rw [List.length_take]; omega)]
      rfl
    · have e1 : List.take m (t.data.toList ++ joinT T) = t.data.toList ++ (joinT T).take (m - t.size) := by
        rw [List.take_append, hl, List.take_of_length_le (by omega)]
      have e2 : (t.size : Int).toNat = t.data.toList.length := by rw [hl]; omega
      rw [e1, if_neg (by rw [List.length_append, hl]; omega), e2, List.drop_left, List.take_left]
      have h2 := take_part T (m - t.size) (by omega)
      cases h3 : takeS (sizesOf T) (List.take (m - t.size) (joinT T)) with
      | none => rfl
      | some x =>
        rw [h3] at h2
        exact h2
/-- an entry that can be written and read -/
structure EnOk (e : En) : Prop where
  kind : KindOk e.1
  nums : i64s e.2.1
  sizes : i64s (sizesOf e.2.2)
theorem oneE_part {e : En} (h : EnOk e) {n : Nat} (hn : n < (entT e).length) : oneE ((entT e).take n) = none := by
  obtain ⟨k, N, T⟩ := e
  obtain ⟨hk, hN, hT⟩ := h
  dsimp only at hk hN hT
  have n10 : (10 : UInt8) ∉ k.data.toList ++ numsT N ++ 59 :: numsT (sizesOf T) := by
    simp only [List.mem_append, List.mem_cons, not_or]
    exact ⟨⟨hk.no10, numsT_not (by decide) (by decide) (by decide)⟩, by decide, numsT_not (by decide) (by decide) (by decide)⟩
  have h2 : cutAt 59 (k.data.toList ++ numsT N ++ 59 :: numsT (sizesOf T)) = (k.data.toList ++ numsT N, numsT (sizesOf T), true) := by
    refine cutAt_yes ?_
    simp only [List.mem_append, not_or]
    exact ⟨hk.no59, numsT_not (by decide) (by decide) (by decide)⟩
  have he : entT (k, N, T) = (k.data.toList ++ numsT N ++ 59 :: numsT (sizesOf T)) ++ 10 :: (joinT T ++ [46]) := rfl
  rw [he] at hn ⊢
  generalize hH : k.data.toList ++ numsT N ++ 59 :: numsT (sizesOf T) = H at *
  by_cases hc : n ≤ H.length
  · rw [List.take_append_of_le_length hc]
    unfold oneE
    rw [if_neg]
    rw [cutAt_no (fun hm => n10 (List.mem_of_mem_take hm))]
    simp
  · obtain ⟨m, rfl⟩ : ∃ m, n = H.length + (m + 1) := ⟨n - H.length - 1, by omega⟩
    have hm : m ≤ (joinT T).length := by simp at hn; omega
    rw [List.take_length_add_append, List.take_succ_cons, List.take_append_of_le_length hm]
    unfold oneE
    rw [cutAt_yes n10]
    dsimp only
    rw [h2]
    dsimp only
    rw [cut_kind hk, if_pos ⟨rfl, rfl, hk.ne⟩, List.drop_left, numsS_text N hN, numsS_text _ hT]
    simp only [Option.bind_some]
    have h3 := take_part T m hm
    cases h4 : takeS (sizesOf T) (List.take m (joinT T)) with
    | none => rfl
    | some x =>
      rw [h4] at h3
      have h5 : dotS x.2 = none := h3
      simp [h5]
theorem parseE_text : ∀ (l : List En) (r : List UInt8), (∀ e ∈ l, EnOk e) → parseE (l.flatMap entT ++ r) = l ++ parseE r
  | [], r, _ => rfl
  | e :: l, r, h => by
    have he := h e List.mem_cons_self
    rw [List.flatMap_cons, List.append_assoc, parseE_some (oneE_text he.kind he.nums he.sizes _), parseE_text l r fun x hx => h x (List.mem_cons_of_mem _ hx)]
    rfl
/-- a journal that is cut -/
theorem parseE_cut {l : List En} (hl : ∀ e ∈ l, EnOk e) {n m : Nat} (hm : m ≤ l.length) (h1 : ((l.take m).flatMap entT).length ≤ n) (h2 : ∀ e, l[m]? = some e → n < ((l.take (m + 1)).flatMap entT).length) : parseE ((l.flatMap entT).take n) = l.take m := by
  have hs : l.flatMap entT = (l.take m).flatMap entT ++ (l.drop m).flatMap entT := by rw [← List.flatMap_append, List.take_append_drop]
  rw [hs, List.take_append, List.take_of_length_le h1, parseE_text _ _ fun e he => hl e (List.mem_of_mem_take he)]
  rcases hd : l.drop m with _ | ⟨e, t⟩
  · rw [List.flatMap_nil, List.take_nil, parseE_none oneE_nil, List.append_nil]
  · have hx : l[m]? = some e := by rw [← List.head?_drop, hd]; rfl
    have h3 := h2 e hx
    obtain ⟨hlt, hg⟩ := List.getElem?_eq_some_iff.1 hx
    rw [List.take_succ_eq_append_getElem hlt, hg, List.flatMap_append, List.length_append] at h3
    simp only [List.flatMap_cons, List.flatMap_nil, List.append_nil] at h3
    have h4 : n - ((l.take m).flatMap entT).length < (entT e).length := by omega
    rw [List.flatMap_cons, List.take_append_of_le_length (by omega), parseE_none (oneE_part (hl e (List.mem_of_getElem? hx)) h4), List.append_nil]
end Go.Proofs.YtgeedjlbajmdkaaGreatDoor
/- The reference SameNumbers at two equal lists. -/
namespace Go.Proofs.YtgeedjlbajmdkaaGreatDoor
open Go.RowKit
theorem infoInt : (Tryz.prog.info? 3).map (fun i => (i.zero, i.size, i.bytes)) = some (some (.int .i64 0), 1, 8) := by kernel_rfl
theorem encInt_len (x : Int) : (encInt x).length = 1 := rfl
end Go.Proofs.YtgeedjlbajmdkaaGreatDoor
/- The journal: the numbers behind a kind: numbers and the reference figures. -/
namespace Go.Proofs.YtgeedjlbajmdkaaGreatDoor
open Go.RowKit

def numsV (S : List UInt8) : List Int := (numsS S).getD []
def NumsPost (S : List UInt8) (w : World) (e : Ending) (w' : World) : Prop :=
  (∃ ao cap, e = .returned (.tuple #[.slice ao (numsV S).length cap, .bool (numsS S).isSome]) ∧ Own 1 encInt 3 w' w.heap.size (.slice ao (numsV S).length cap) (numsV S)) ∧ Below w.heap.size w w'
theorem NumsPost.bad {S : List UInt8} {w w' : World} (h : numsS S = none) (hb : Below w.heap.size w w') : NumsPost S w (.returned (.tuple #[.slice none 0 0, .bool false])) w' := by
  unfold NumsPost numsV
  rw [h]
  exact ⟨⟨none, 0, rfl, Own.nil⟩, hb⟩
theorem NumsPost.good {S : List UInt8} {w w' : World} {v : Value} {N : List Int} (h : numsS S = some N) (ho : Own 1 encInt 3 w' w.heap.size v N) (hb : Below w.heap.size w w') : NumsPost S w (.returned (.tuple #[v, .bool true])) w' := by
  obtain ⟨⟨ao, cap, rfl⟩, _⟩ := id ho
  unfold NumsPost numsV
  rw [h]
  exact ⟨⟨ao, cap, rfl, ho⟩, hb⟩
theorem splitAt_word (c : UInt8) : ∀ (n : Nat) (l : List UInt8), l.length ≤ n → ∀ w ∈ splitAt c l, w.length ≤ l.length
  | 0, l, h, w, hw => by
    obtain rfl := List.length_eq_zero_iff.1 (Nat.le_zero.1 h)
    rw [splitAt_no (by simp)] at hw
    rw [List.mem_singleton.1 hw]; exact Nat.le_refl _
  | n + 1, l, h, w, hw => by
    rcases first_of c l with hc | ⟨A, B, rfl, hA⟩
    · rw [splitAt_no hc] at hw
      rw [List.mem_singleton.1 hw]; exact Nat.le_refl _
    · rw [splitAt_yes hA] at hw
      rw [List.length_append, List.length_cons] at h ⊢
      rcases List.mem_cons.1 hw with e | e
      · rw [e]; omega
      · have := splitAt_word c n B (by omega) w e
        omega
theorem numsL_drop {ws : List (List UInt8)} {k : Nat} {x : List UInt8} (h : ws[k]? = some x) : numsL (ws.drop k) = (numS x).bind fun n => (numsL (ws.drop (k + 1))).map (n :: ·) := by
  obtain ⟨hlt, hx⟩ := List.getElem?_eq_some_iff.1 h
  rw [List.drop_eq_getElem_cons hlt, hx, numsL_cons]
theorem numsL_acc {ws : List (List UInt8)} {k : Nat} {x : List UInt8} {acc : List Int} {r : Option (List Int)} (hr : r = (numsL (ws.drop k)).map (acc ++ ·)) (h : ws[k]? = some x) :
    (numOk x = false → r = none) ∧ (numOk x = true → r = (numsL (ws.drop (k + 1))).map ((acc ++ [atoiV x]) ++ ·)) := by
  rw [numsL_drop h] at hr
  constructor
  · intro h1
    rw [numOk_none h1] at hr
    exact hr
  · intro h1
    rw [numOk_val h1] at hr
    rw [hr]
    cases numsL (List.drop (k + 1) ws) <;> simp
theorem splitAt_count (c : UInt8) (l : List UInt8) : (splitAt c l).length ≤ l.length + 1 := splitAt_len c l
theorem figs_step {S : List UInt8} {i m : Nat} {acc : List Int} {r : Option (List Int)} (hr : r = (numsS (S.drop i)).map (acc ++ ·)) (hc : S[i]? = some 32) (hw : (32 : UInt8) ∉ (S.drop (i + 1)).take m) (he : S.drop (i + 1 + m) = [] ∨ (S.drop (i + 1 + m)).head? = some 32) :
    (numOk ((S.drop (i + 1)).take m) = false → r = none) ∧ (numOk ((S.drop (i + 1)).take m) = true → r = (numsS (S.drop (i + 1 + m))).map ((acc ++ [atoiV ((S.drop (i + 1)).take m)]) ++ ·)) := by
  obtain ⟨hlt, hx⟩ := List.getElem?_eq_some_iff.1 hc
  have h1 : S.drop i = 32 :: ((S.drop (i + 1)).take m ++ S.drop (i + 1 + m)) := by
    rw [List.drop_eq_getElem_cons hlt, hx, ← List.drop_drop (j := i + 1), List.take_append_drop]
  rw [h1, numsS_cons hw he] at hr
  constructor
  · intro h2
    rw [numOk_none h2] at hr
    exact hr
  · intro h2
    rw [numOk_val h2] at hr
    rw [hr]
    cases numsS (S.drop (i + 1 + m)) <;> simp
theorem tx_mid {S : List UInt8} {p : Nat} {c : UInt8} (h : S[p]? = some c) : (tx S).extract p (p + 1) = tx [c] := by
  obtain ⟨hlt, hx⟩ := List.getElem?_eq_some_iff.1 h
  apply tl_inj
  rw [tl, tl, tx_list]
  simp only [tx, ByteArray.data_extract, List.extract_toArray, List.extract_eq_take_drop]
  rw [List.drop_eq_getElem_cons hlt, hx, show p + 1 - p = 1 by omega]
  rfl
theorem take_tx {S : List UInt8} {a m : Nat} {c : UInt8} (h : S[a + m]? = some c) : tx ((S.drop a).take m) ++ tx [c] = tx ((S.drop a).take (m + 1)) := by
  have h2 : (S.drop a)[m]? = some c := by rw [List.getElem?_drop]; exact h
  obtain ⟨hlt, hx⟩ := List.getElem?_eq_some_iff.1 h2
  rw [List.take_succ_eq_append_getElem hlt, hx]
  apply tl_inj
  rw [tl, tl, tx_list]
  simp [tx, ByteArray.data_append]
end Go.Proofs.YtgeedjlbajmdkaaGreatDoor
namespace Go.Proofs.YtgeedjlbajmdkaaGreatDoor
open Go.RowKit

/-- where x stands first; below 0: nowhere -/
def IsIdx (l : List ByteArray) (x : ByteArray) (r : Int) : Prop := (∃ k : Nat, r = k ∧ l[k]? = some x ∧ ∀ i, i < k → l[i]? ≠ some x) ∨ (r = -1 ∧ ∀ i : Nat, l[i]? ≠ some x)
def IdxPost (l : List ByteArray) (x : ByteArray) (w : World) (e : Ending) (w' : World) : Prop := (∃ r, e = .returned (.int .i64 r) ∧ IsIdx l x r) ∧ Below w.heap.size w w'
set_option maxRecDepth 100000 in
theorem IndexS_any (ao : Option Addr) (cap : Nat) (l : List ByteArray) (x : ByteArray) (w : World) (hl : l.length ≤ 1000000) (hs : Sl 1 encS w ao l) :
    Calls Tryz.prog 50 #[.slice ao l.length cap, .string x] w (IdxPost l x w) := by
  have HS := hide hs
  clear hs
  go_enter Tryz.func50, Tryz.ntmps50
  go_wp2
  go_loopw [8] (fun iv wr => ∃ k : Nat, k ≤ l.length ∧ iv = .int .i64 k ∧ Hid (∀ i, i < k → l[i]? ≠ some x) ∧ Hid (Below w.heap.size w wr)) (fun iv _ => l.length - (intOf iv).toNat)
  case atStart => exact ⟨0, by omega, rfl, (fun i h => by omega), Below.refl _ _⟩
  case round =>
    obtain ⟨k, hk, rfl, HN, HB⟩ := hrel
    by_cases hlt : k < l.length
    · obtain ⟨b, off, y, rfl, hbw, hlk, c0⟩ := (HS.out.later HB.out (Nat.le_refl _)).str hlt
      have f1 : (0 : Int) ≤ (k : Int) ∧ (k : Int) < (l.length : Int) := by omega
      obtain ⟨f1, f2⟩ := f1
      by_cases hxy : x = y
      · have HP : Hid (IsIdx l x k) := hide (show IsIdx l x k from Or.inl ⟨k, rfl, by rw [hlk, hxy], HN.out⟩)
        have g1 : (x.toList == y.toList) = true := by rw [hxy]; exact beqq _
        clear hlk hxy HN
        go_wp2
        go_ret
        exact ⟨⟨_, rfl, HP.out⟩, HB.out⟩
      · have HN2 : Hid (∀ i, i < k + 1 → l[i]? ≠ some x) := fun i hi => by
          by_cases e : i = k
          · subst e; rw [hlk]; intro h; cases h; exact hxy rfl
          · exact HN.out i (by omega)
        have g1 := bneq hxy
        clear hlk hxy HN
        go_wp2
        go_roundw
        case rel => exact ⟨k + 1, by omega, by go_num, HN2, HB⟩
        case measure => (simp [intOf]; try omega)
    · have HP := hide (show IsIdx l x (-1) from Or.inr ⟨rfl, fun i => by
        by_cases hi : i < k
        · exact HN.out i hi
        · rw [List.getElem?_eq_none (by omega)]; simp⟩)
      go_wp2
      go_ret
      exact ⟨⟨_, rfl, HP.out⟩, HB.out⟩
theorem foldN_idx {w : List UInt8} {r : Int} (h : IsIdx foldsL (tx w) r) : max 0 r = foldN w ∧ r ≤ 4 := by
  have e0 : ∀ k : Int, (tx (foldK k) = tx w) → foldK k = w := fun k h => tx_inj h
  rcases h with ⟨k, rfl, h1, h2⟩ | ⟨rfl, h2⟩
  · have hk : k < 5 := (List.getElem?_eq_some_iff.1 h1).1
    have hn : ∀ j : Nat, 1 ≤ j → j < k → foldK j ≠ w := fun j h3 h4 e => by
      have h5 : foldsL[j]? = some (tx (foldK j)) := by
        have : j = 1 ∨ j = 2 ∨ j = 3 ∨ j = 4 := by omega
        rcases this with rfl | rfl | rfl | rfl <;> rfl
      exact h2 j h4 (by rw [h5, e])
    have : k = 0 ∨ k = 1 ∨ k = 2 ∨ k = 3 ∨ k = 4 := by omega
    rcases this with rfl | rfl | rfl | rfl | rfl
    · have e : w = [] := (tx_inj (Option.some.inj h1)).symm
      subst e
      exact ⟨by decide, by decide⟩
    all_goals
      have e := (tx_inj (Option.some.inj h1)).symm
      subst e
      exact ⟨by decide, by decide⟩
  · refine ⟨?_, by decide⟩
    have hn : ∀ j : Nat, 1 ≤ j → j ≤ 4 → w ≠ foldK j := fun j h3 h4 e => by
      have h5 : foldsL[j]? = some (tx (foldK j)) := by
        have : j = 1 ∨ j = 2 ∨ j = 3 ∨ j = 4 := by omega
        rcases this with rfl | rfl | rfl | rfl <;> rfl
      exact h2 j (by rw [h5, ← e])
    unfold foldN
    rw [if_neg (show w ≠ foldK 1 from hn 1 (by decide) (by decide)), if_neg (show w ≠ foldK 2 from hn 2 (by decide) (by decide)), if_neg (show w ≠ foldK 3 from hn 3 (by decide) (by decide)), if_neg (show w ≠ foldK 4 from hn 4 (by decide) (by decide))]
    rfl
theorem join_cons (c : UInt8) (h : List UInt8) (t : List (List UInt8)) (ht : t ≠ []) : Lib.join (h :: t) [c] = h ++ c :: Lib.join t [c] := by
  cases t with
  | nil => exact absurd rfl ht
  | cons u t => simp [Lib.join, List.intercalate, List.intersperse]
theorem join_split (c : UInt8) : ∀ (n : Nat) (l : List UInt8), l.length ≤ n → Lib.join (splitAt c l) [c] = l := by
  intro n
  induction n with
  | zero =>
    intro l hl
    have : l = [] := List.length_eq_zero_iff.1 (by omega)
    subst this
    rfl
  | succ n ih =>
    intro l hl
    rcases first_of c l with h | ⟨A, B, rfl, hA⟩
    · rw [splitAt_no h]; simp [Lib.join]
    · rw [splitAt_yes hA, join_cons c A _ (splitAt_ne _ _), ih B (by simp at hl; omega)]
/-- all but the first word -/
theorem join_rest (l : List UInt8) : ∃ ws, splitAt 32 l = (wordR l).1 :: ws ∧ Lib.join ws [32] = (wordR l).2 := by
  unfold wordR
  rcases first_of 32 l with h | ⟨A, B, rfl, hA⟩
  · rw [splitAt_no h, cutAt_no h]
    exact ⟨[], rfl, rfl⟩
  · rw [splitAt_yes hA, cutAt_yes hA]
    exact ⟨_, rfl, join_split 32 _ B (Nat.le_refl _)⟩
theorem join_tx (ws : List (List UInt8)) (sep : List UInt8) : Lib.join ((ws.map tx).map (·.data.toList)) sep = Lib.join ws sep := by
  congr 1
  rw [List.map_map]
  conv => rhs; rw [← List.map_id ws]
  exact List.map_congr_left fun x _ => tx_list x
theorem JoinS_any (ao : Option Addr) (cap : Nat) (ws : List (List UInt8)) (w : World) (hn : (Lib.join ws [32]).length ≤ 1000000) (hl : ws.length ≤ 1000000) (hc : ws.length ≤ cap) (hs : Sl 1 encS w ao (ws.map tx)) :
    Calls Tryz.prog 51 #[.slice ao ws.length cap, .string ⟨#[32]⟩] w fun e w' => e = .returned (.string (tx (Lib.join ws [32]))) ∧ Below w.heap.size w w' := by
  rcases Nat.eq_zero_or_pos ws.length with h0 | h0
  · have := List.length_eq_zero_iff.1 h0
    subst this
    refine (Tryz.strings_Join_none ao cap ⟨#[32]⟩ w).mono ?_
    rintro e w' ⟨rfl, rfl⟩
    exact ⟨rfl, Below.refl _ _⟩
  · obtain ⟨b, off, rfl, hlt, hc2⟩ := hs (by rw [List.length_map]; exact h0)
    have hj : Lib.join ((ws.map tx).map (·.data.toList)) (⟨#[32]⟩ : ByteArray).data.toList = Lib.join ws [32] := join_tx ws [32]
    have h := Tryz.strings_Join b off cap (ws.map tx) ⟨#[32]⟩ w (fun j x hx => by have := hc2 j x 0 _ hx rfl; simpa using this) hlt (by rw [List.length_map]; omega) (by rw [List.length_map]; exact hc) (by rw [hj]; omega)
    rw [hj, List.length_map] at h
    exact h
theorem trim10_eq (s : List UInt8) : Lib.trimSuffix s [10] = trim10 s := by
  unfold Lib.trimSuffix trim10 Lib.hasSuffix
  rcases List.eq_nil_or_concat s with rfl | ⟨l, x, rfl⟩
  · rfl
  · rw [List.concat_eq_append, List.getLast?_concat, List.dropLast_concat]
    by_cases h : x = 10
    · subst h
      have : [10].isSuffixOf (l ++ [(10 : UInt8)]) = true := by simp
      rw [if_pos this, if_pos rfl]
      simp
    · have : [10].isSuffixOf (l ++ [x]) = false := by
        rw [Bool.eq_false_iff]
        intro h2
        rw [List.isSuffixOf_iff_suffix] at h2
        obtain ⟨t, ht⟩ := h2
        have := List.append_inj_right' ht rfl
        simp at this
        exact h this.symm
      rw [this]
      simp [h]
end Go.Proofs.YtgeedjlbajmdkaaGreatDoor
