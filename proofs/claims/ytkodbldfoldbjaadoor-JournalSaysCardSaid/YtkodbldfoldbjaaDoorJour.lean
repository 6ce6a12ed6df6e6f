/- The journal: the text of an entry. -/
import Derived.Test.YtkodbldfoldbjaaDoorJourLaw
import Derived.Test.YtkodbldfoldbjaaDoorPair4
import Derived.Test.YtkodbldfoldbjaaDoorTexts
import Derived.Lib.Join
set_option linter.unusedSimpArgs false
set_option linter.unusedVariables false
namespace Go.Proofs.YtkodbldfoldbjaaDoor
open Go.RowKit

theorem numsT_succ {N : List Int} {j : Nat} {n : Int} (h : N[j]? = some n) : numsT (N.take (j + 1)) = numsT (N.take j) ++ 32 :: Lib.itoa n := by
  obtain ⟨hlt, hx⟩ := List.getElem?_eq_some_iff.1 h
  rw [List.take_succ_eq_append_getElem hlt, hx]
  unfold numsT
  rw [List.flatMap_append]
  simp
theorem numsT_len : ∀ (N : List Int), i64s N → (numsT N).length ≤ 21 * N.length
  | [], _ => Nat.le_refl _
  | n :: N, h => by
    have h1 := h n List.mem_cons_self
    have h2 := numsT_len N fun x hx => h x (List.mem_cons_of_mem _ hx)
    have h3 := itoa_len h1.1 h1.2
    rw [numsT_cons, List.length_cons, List.length_append, List.length_cons]
    omega
theorem joinT_len : ∀ (T : List ByteArray), (∀ t ∈ T, t.size ≤ 1000000) → (joinT T).length ≤ 1000000 * T.length
  | [], _ => Nat.le_refl _
  | t :: T, h => by
    have h1 := h t List.mem_cons_self
    have h2 := joinT_len T fun x hx => h x (List.mem_cons_of_mem _ hx)
    rw [joinT_cons, List.length_append, List.length_cons, tl_len]
    omega
theorem join_flat (T : List ByteArray) : Lib.join (T.map (·.data.toList)) [] = joinT T := by
  unfold joinT
  rcases T with _ | ⟨t, T⟩
  · rfl
  · rw [Lib.join]
    induction T generalizing t with
    | nil => simp [List.intercalate, List.intersperse]
    | cons u T ih =>
      have h := ih u
      rw [List.map_cons, List.map_cons, List.flatMap_cons]
      simp only [List.intercalate, List.map_cons, List.intersperse, List.flatten_cons, List.nil_append] at h ⊢
      rw [h]
theorem sizesOf_i64 {T : List ByteArray} (h : ∀ t ∈ T, t.size ≤ 1000000) : i64s (sizesOf T) := by
  intro n hn
  obtain ⟨t, ht, rfl⟩ := List.mem_map.1 hn
  have := h t ht
  omega
theorem sizesOf_get {T : List ByteArray} {j : Nat} {t : ByteArray} (h : T[j]? = some t) : (sizesOf T)[j]? = some (t.size : Int) := by
  unfold sizesOf; rw [List.getElem?_map, h]; rfl
theorem sizesOf_take (T : List ByteArray) (j : Nat) : sizesOf (T.take j) = (sizesOf T).take j := by unfold sizesOf; rw [List.map_take]
theorem Join_any (ao : Option Addr) (cap : Nat) (T : List ByteArray) (w : World) (hT : ∀ t ∈ T, t.size ≤ 1000000) (hl : T.length ≤ 10000) (hc : T.length ≤ cap) (hs : Sl 1 encS w ao T) :
    Calls Tryd.prog 79 #[.slice ao T.length cap, .string ⟨#[]⟩] w fun e w' => e = .returned (.string (tx (joinT T))) ∧ Below w.heap.size w w' := by
  rcases Nat.eq_zero_or_pos T.length with h0 | h0
  · have := List.length_eq_zero_iff.1 h0
    subst this
    refine (Tryd.strings_Join_none ao cap ⟨#[]⟩ w).mono ?_
    rintro e w' ⟨rfl, rfl⟩
    exact ⟨rfl, Below.refl _ _⟩
  · obtain ⟨b, off, rfl, hlt, hc2⟩ := hs h0
    have hj : Lib.join (T.map (·.data.toList)) (⟨#[]⟩ : ByteArray).data.toList = joinT T := join_flat T
    refine (Tryd.strings_Join b off cap T ⟨#[]⟩ w (fun j x hx => by have := hc2 j x 0 _ hx rfl; simpa using this) hlt (by omega) hc (by rw [hj]; have := joinT_len T hT; omega)).mono ?_
    rintro e w' ⟨rfl, hb⟩
    rw [hj]
    exact ⟨rfl, hb⟩
set_option maxRecDepth 100000 in
set_option maxHeartbeats 2000000 in
theorem JText_any (k : ByteArray) (na : Option Addr) (nc : Nat) (N : List Int) (ta : Option Addr) (tc : Nat) (T : List ByteArray) (w : World) (hg : GW w) (hk : k.size ≤ 1000000) (hNl : N.length ≤ 10000) (hTl : T.length ≤ 10000) (hN : i64s N) (hT : ∀ t ∈ T, t.size ≤ 1000000) (hsn : Sl 1 encInt w na N) (hst : Sl 1 encS w ta T) (hcap : T.length ≤ tc) :
    Calls Tryd.prog 50 #[.agg #[.string k, .slice na N.length nc, .slice ta T.length tc]] w fun e w' => e = .returned (.string (tx (entT (k, N, T)))) ∧ Below w.heap.size w w' := by
  have hb0 : Below w.heap.size w (w.alloc (.cells #[.string k, .slice na N.length nc, .slice ta T.length tc] 73)) := (Below.refl _ _).alloc (Nat.le_refl _) _
  have hbk : Bk (w.alloc (.cells #[.string k, .slice na N.length nc, .slice ta T.length tc] 73)) w.heap.size [.string k, .slice na N.length nc, .slice ta T.length tc] := Bk.new rfl
  have c0 := hbk.get (j := 0) rfl
  have c1 := hbk.get (j := 1) rfl
  have c2 := hbk.get (j := 2) rfl
  have HG := hide hg
  have HSN := hide hsn
  have HST := hide hst
  have HB0 := hide hb0
  have HN := hide hN
  have HT := hide hT
  clear hg hsn hst hb0 hbk hN hT
  go_enter Tryd.func50, Tryd.ntmps50
  go_wp2_with fail
  generalize hW : w.alloc (.cells #[.string k, .slice na N.length nc, .slice ta T.length tc] 73) = W at *
  clear hW
  go_loopw [3, 13] (fun sv i wr => ∃ j : Nat, j ≤ N.length ∧ i = .int .i64 j ∧ sv = .string (tx (k.data.toList ++ numsT (N.take j))) ∧ Below W.heap.size W wr) (fun _ i _ => N.length - (intOf i).toNat)
  case atStart => exact ⟨0, by omega, by go_num, (by simp [numsT, tx_of]), Below.refl _ _⟩
  case round =>
    obtain ⟨j, hj, rfl, rfl, hbl⟩ := hrel
    have HBW := hide (HB0.out.trans (hbl.mono HB0.out.size))
    have hsz : (tx (k.data.toList ++ numsT (N.take j))).size ≤ 1000000 + 210000 := by
      rw [tx_size, List.length_append, tl_len]
      have h1 := numsT_len (N.take j) fun x hx => HN.out x (List.mem_of_mem_take hx)
      rw [List.length_take] at h1
      omega
    by_cases hlt : j < N.length
    · obtain ⟨b, off, n, rfl, hbw, hlk, d0⟩ := (HSN.out.later HBW.out (Nat.le_refl _)).int hlt
      have hn := HN.out n (List.mem_of_getElem? hlk)
      have HST2 : Hid (tx (k.data.toList ++ numsT (N.take j)) ++ (⟨#[32]⟩ ++ tx (Lib.itoa n)) = tx (k.data.toList ++ numsT (N.take (j + 1)))) := by
        show _ = _
        rw [numsT_succ hlk]
        apply tl_inj
        rw [tl, tl, tx_list]
        simp [tx, ByteArray.data_append]
      have HI := hide (Itoa_any n wr (HG.out.later HBW.out (Nat.le_refl _)) hn.1 hn.2)
      have hD : (tx (Lib.itoa n)).size ≤ 20 := by rw [tx_size]; exact itoa_len hn.1 hn.2
      have HBL := hide hbl
      generalize tx (k.data.toList ++ numsT (N.take j)) = S at *
      generalize tx (Lib.itoa n) = D at *
      have n1 : ¬ 9223372036854775807 < 1 + D.size := by omega
      have n2 : ¬ 9223372036854775807 < S.size + (1 + D.size) := by omega
      clear hlk hn hbl
      go_wp2_with fail
      refine HI.out.mono ?_
      rintro e w1 ⟨rfl, b1⟩
      go_wp2
      go_roundw
      case rel => exact ⟨j + 1, by omega, by go_num, (by rw [HST2.out]), HBL.out.trans (b1.mono HBL.out.size)⟩
      case measure => (simp [intOf]; try omega)
    · obtain rfl : j = N.length := by omega
      have c2' := cell_later hbl c2
      rw [List.take_length] at hsz ⊢
      have HBK := hide HBW.out
      obtain ⟨W2, rfl⟩ : ∃ w2, w2 = wr := ⟨_, rfl⟩
      have HS59 : Hid (tx (k.data.toList ++ numsT N) ++ ⟨#[59]⟩ = tx (k.data.toList ++ numsT N ++ 59 :: numsT ((sizesOf T).take 0))) := by
        show _ = _
        apply tl_inj
        rw [tl, tl, tx_list]
        simp [tx, ByteArray.data_append, numsT]
      obtain ⟨S0, hS0⟩ : ∃ S0, S0 = tx (k.data.toList ++ numsT N ++ 59 :: numsT ((sizesOf T).take 0)) := ⟨_, rfl⟩
      rw [← hS0] at HS59
      generalize hA : k.data.toList ++ numsT N = A at *
      have HS0 := hide hS0
      clear hS0
      have hAl : (tx A).size ≤ 1210000 := by omega
      have n3 : ¬ 9223372036854775807 < (tx A).size + 1 := by omega
      clear hbl hsz c0 c1
      go_wp2_with fail
      rw [HS59.out]
      clear n3 HS59
      go_loopw [3, 28] (fun sv i wr => ∃ j : Nat, j ≤ T.length ∧ i = .int .i64 j ∧ sv = .string (tx (A ++ 59 :: numsT ((sizesOf T).take j))) ∧ Below W2.heap.size W2 wr) (fun _ i _ => T.length - (intOf i).toNat)
      case atStart => exact ⟨0, by omega, by go_num, (by rw [HS0.out]), Below.refl _ _⟩
      case round =>
        clear HS0
        obtain ⟨j, hj2, rfl, rfl, hbl⟩ := hrel
        have HBW2 := hide (HBK.out.trans (hbl.mono HBK.out.size))
        have hsz : (tx (A ++ 59 :: numsT ((sizesOf T).take j))).size ≤ 1210000 + 210001 := by
          rw [tx_size] at hAl ⊢
          rw [List.length_append, List.length_cons]
          have h1 := numsT_len ((sizesOf T).take j) fun x hx => sizesOf_i64 HT.out x (List.mem_of_mem_take hx)
          rw [List.length_take] at h1
          omega
        by_cases hlt : j < T.length
        · obtain ⟨b, off, t, rfl, hbw, hlk, d0⟩ := (HST.out.later HBW2.out (Nat.le_refl _)).str hlt
          have hn := HT.out t (List.mem_of_getElem? hlk)
          have HST2 : Hid (tx (A ++ 59 :: numsT ((sizesOf T).take j)) ++ (⟨#[32]⟩ ++ tx (Lib.itoa (t.size : Int))) = tx (A ++ 59 :: numsT ((sizesOf T).take (j + 1)))) := by
            show _ = _
            rw [numsT_succ (sizesOf_get hlk)]
            apply tl_inj
            rw [tl, tl, tx_list]
            simp [tx, ByteArray.data_append]
          have HI := hide (Itoa_any (t.size : Int) wr (HG.out.later HBW2.out (Nat.le_refl _)) (by omega) (by omega))
          have hD : (tx (Lib.itoa (t.size : Int))).size ≤ 20 := by rw [tx_size]; exact itoa_len (by omega) (by omega)
          have HBL := hide hbl
          generalize tx (A ++ 59 :: numsT ((sizesOf T).take j)) = S at *
          generalize tx (Lib.itoa (t.size : Int)) = D at *
          have n1 : ¬ 9223372036854775807 < 1 + D.size := by omega
          have n2 : ¬ 9223372036854775807 < S.size + (1 + D.size) := by omega
          clear hlk hn hbl
          go_wp2_with fail
          refine HI.out.mono ?_
          rintro e w1 ⟨rfl, b1⟩
          go_wp2
          go_roundw
          case rel => exact ⟨j + 1, by omega, by go_num, (by rw [HST2.out]), HBL.out.trans (b1.mono HBL.out.size)⟩
          case measure => (simp [intOf]; try omega)
        · have hjT : j = T.length := by omega
          have c2'' := cell_later hbl c2'
          have htk : (sizesOf T).take j = sizesOf T := List.take_of_length_le (by unfold sizesOf; rw [List.length_map]; omega)
          rw [htk] at hsz ⊢
          have HJ := hide (Join_any ta tc T wr HT.out hTl hcap (HST.out.later HBW2.out (Nat.le_refl _)))
          have hJl : (tx (joinT T)).size ≤ 10000000000 := by rw [tx_size]; have := joinT_len T HT.out; omega
          have HFIN : Hid (((tx (A ++ 59 :: numsT (sizesOf T)) ++ ⟨#[10]⟩) ++ tx (joinT T)) ++ ⟨#[46]⟩ = tx (entT (k, N, T))) := by
            show _ = _
            subst hA
            unfold entT
            apply tl_inj
            rw [tl, tl, tx_list]
            simp [tx, ByteArray.data_append]
          generalize tx (A ++ 59 :: numsT (sizesOf T)) = S at *
          generalize tx (joinT T) = J at *
          have n1 : ¬ 9223372036854775807 < S.size + 1 := by omega
          have n2 : ¬ 9223372036854775807 < S.size + 1 + J.size := by omega
          have n3 : ¬ 9223372036854775807 < S.size + 1 + J.size + 1 := by omega
          clear hbl htk
          go_wp2_with fail
          refine HJ.out.mono ?_
          rintro e w1 ⟨rfl, b1⟩
          go_wp2
          go_ret
          exact ⟨by rw [← HFIN.out]; rfl, HBW2.out.trans (b1.mono HBW2.out.size)⟩
theorem joinT_succ {T : List ByteArray} {j : Nat} {t : ByteArray} (h : T[j]? = some t) : joinT (T.take (j + 1)) = joinT (T.take j) ++ t.data.toList := by
  obtain ⟨hlt, hx⟩ := List.getElem?_eq_some_iff.1 h
  rw [List.take_succ_eq_append_getElem hlt, hx]
  unfold joinT
  rw [List.flatMap_append]
  simp
set_option maxRecDepth 100000 in
set_option maxHeartbeats 2000000 in
theorem EText_any (k : ByteArray) (na : Option Addr) (nc : Nat) (N : List Int) (ta : Option Addr) (tc : Nat) (T : List ByteArray) (w : World) (hk : k.size ≤ 1000000) (hNl : N.length ≤ 10000) (hTl : T.length ≤ 10000) (hN : i64s N) (hT : ∀ t ∈ T, t.size ≤ 1000000) (hsn : Sl 1 encInt w na N) (hst : Sl 1 encS w ta T) :
    Calls Tryd.prog 51 #[.agg #[.string k, .slice na N.length nc, .slice ta T.length tc]] w fun e w' => e = .returned (.string (tx (entT (k, N, T)))) ∧ Below w.heap.size w w' := by
  have hb0 : Below w.heap.size w (w.alloc (.cells #[.string k, .slice na N.length nc, .slice ta T.length tc] 77)) := (Below.refl _ _).alloc (Nat.le_refl _) _
  have hbk : Bk (w.alloc (.cells #[.string k, .slice na N.length nc, .slice ta T.length tc] 77)) w.heap.size [.string k, .slice na N.length nc, .slice ta T.length tc] := Bk.new rfl
  have c0 := hbk.get (j := 0) rfl
  have c1 := hbk.get (j := 1) rfl
  have c2 := hbk.get (j := 2) rfl
  have HSN := hide hsn
  have HST := hide hst
  have HB0 := hide hb0
  have HN := hide hN
  have HT := hide hT
  clear hsn hst hb0 hbk hN hT
  go_enter Tryd.func51, Tryd.ntmps51
  go_wp2_with fail
  generalize hW : w.alloc (.cells #[.string k, .slice na N.length nc, .slice ta T.length tc] 77) = W at *
  clear hW
  go_loopw [3, 4] (fun sv i wr => ∃ j : Nat, j ≤ N.length ∧ i = .int .i64 j ∧ sv = .string (tx (k.data.toList ++ numsT (N.take j))) ∧ Below W.heap.size W wr) (fun _ i _ => N.length - (intOf i).toNat)
  case atStart => exact ⟨0, by omega, by go_num, (by simp [numsT, tx_of]), Below.refl _ _⟩
  case round =>
    obtain ⟨j, hj, rfl, rfl, hbl⟩ := hrel
    have HBW := hide (HB0.out.trans (hbl.mono HB0.out.size))
    have c1' := cell_later hbl c1
    have hsz : (tx (k.data.toList ++ numsT (N.take j))).size ≤ 1000000 + 210000 := by
      rw [tx_size, List.length_append, tl_len]
      have h1 := numsT_len (N.take j) fun x hx => HN.out x (List.mem_of_mem_take hx)
      rw [List.length_take] at h1
      omega
    by_cases hlt : j < N.length
    · obtain ⟨b, off, n, rfl, hbw, hlk, d0⟩ := (HSN.out.later HBW.out (Nat.le_refl _)).int hlt
      have hn := HN.out n (List.mem_of_getElem? hlk)
      have HST2 : Hid ((tx (k.data.toList ++ numsT (N.take j)) ++ ⟨#[32]⟩) ++ tx (Lib.itoa n) = tx (k.data.toList ++ numsT (N.take (j + 1)))) := by
        show _ = _
        rw [numsT_succ hlk]
        apply tl_inj
        rw [tl, tl, tx_list]
        simp [tx, ByteArray.data_append]
      have HI := hide (Decimal_any n wr hn.1 hn.2)
      have hD : (tx (Lib.itoa n)).size ≤ 20 := by rw [tx_size]; exact itoa_len hn.1 hn.2
      have HBL := hide hbl
      have f1 : (0 : Int) ≤ (j : Int) ∧ (j : Int) < (N.length : Int) := by omega
      obtain ⟨f1, f2⟩ := f1
      generalize tx (k.data.toList ++ numsT (N.take j)) = S at *
      generalize tx (Lib.itoa n) = D at *
      have n1 : ¬ 9223372036854775807 < S.size + 1 := by omega
      have n2 : ¬ 9223372036854775807 < S.size + 1 + D.size := by omega
      clear hlk hn hbl
      go_wp2_with fail
      refine HI.out.mono ?_
      rintro e w1 ⟨rfl, b1⟩
      go_wp2
      go_roundw
      case rel => exact ⟨j + 1, by omega, by go_num, (by rw [HST2.out]), HBL.out.trans (b1.mono HBL.out.size)⟩
      case measure => (simp [intOf]; try omega)
    · obtain rfl : j = N.length := by omega
      have c2' := cell_later hbl c2
      rw [List.take_length] at hsz ⊢
      have HBK := hide HBW.out
      obtain ⟨W2, rfl⟩ : ∃ w2, w2 = wr := ⟨_, rfl⟩
      have HS59 : Hid (tx (k.data.toList ++ numsT N) ++ ⟨#[59]⟩ = tx (k.data.toList ++ numsT N ++ 59 :: numsT ((sizesOf T).take 0))) := by
        show _ = _
        apply tl_inj
        rw [tl, tl, tx_list]
        simp [tx, ByteArray.data_append, numsT]
      obtain ⟨S0, hS0⟩ : ∃ S0, S0 = tx (k.data.toList ++ numsT N ++ 59 :: numsT ((sizesOf T).take 0)) := ⟨_, rfl⟩
      rw [← hS0] at HS59
      generalize hA : k.data.toList ++ numsT N = A at *
      have HS0 := hide hS0
      clear hS0
      have hAl : (tx A).size ≤ 1210000 := by omega
      have n3 : ¬ 9223372036854775807 < (tx A).size + 1 := by omega
      clear hbl hsz c0 c1
      go_wp2_with fail
      rw [HS59.out]
      clear n3 HS59
      go_loopw [3, 5, 6] (fun sv tv i wr => ∃ j : Nat, j ≤ T.length ∧ i = .int .i64 j ∧ sv = .string (tx (A ++ 59 :: numsT ((sizesOf T).take j))) ∧ tv = .string (tx (joinT (T.take j))) ∧ Below W2.heap.size W2 wr) (fun _ _ i _ => T.length - (intOf i).toNat)
      case atStart => exact ⟨0, by omega, by go_num, (by rw [HS0.out]), rfl, Below.refl _ _⟩
      case round =>
        clear HS0
        obtain ⟨j, hj2, rfl, rfl, rfl, hbl⟩ := hrel
        have HBW2 := hide (HBK.out.trans (hbl.mono HBK.out.size))
        have c2'' := cell_later hbl c2'
        have hsz : (tx (A ++ 59 :: numsT ((sizesOf T).take j))).size ≤ 1210000 + 210001 := by
          rw [tx_size] at hAl ⊢
          rw [List.length_append, List.length_cons]
          have h1 := numsT_len ((sizesOf T).take j) fun x hx => sizesOf_i64 HT.out x (List.mem_of_mem_take hx)
          rw [List.length_take] at h1
          omega
        have hjz : (tx (joinT (T.take j))).size ≤ 10000000000 := by
          rw [tx_size]
          have := joinT_len (T.take j) fun x hx => HT.out x (List.mem_of_mem_take hx)
          rw [List.length_take] at this
          omega
        by_cases hlt : j < T.length
        · obtain ⟨b, off, t, rfl, hbw, hlk, d0⟩ := (HST.out.later HBW2.out (Nat.le_refl _)).str hlt
          have hn := HT.out t (List.mem_of_getElem? hlk)
          have HST2 : Hid ((tx (A ++ 59 :: numsT ((sizesOf T).take j)) ++ ⟨#[32]⟩) ++ tx (Lib.itoa (t.size : Int)) = tx (A ++ 59 :: numsT ((sizesOf T).take (j + 1)))) := by
            show _ = _
            rw [numsT_succ (sizesOf_get hlk)]
            apply tl_inj
            rw [tl, tl, tx_list]
            simp [tx, ByteArray.data_append]
          have HJ2 : Hid (tx (joinT (T.take j)) ++ t = tx (joinT (T.take (j + 1)))) := by
            show _ = _
            rw [joinT_succ hlk]
            apply tl_inj
            rw [tl, tl, tx_list]
            simp [tx, ByteArray.data_append]
          have HI := hide (Decimal_any (t.size : Int) wr (by omega) (by omega))
          have hD : (tx (Lib.itoa (t.size : Int))).size ≤ 20 := by rw [tx_size]; exact itoa_len (by omega) (by omega)
          have HBL := hide hbl
          have HST3 := hide HST.out
          have f1 : (0 : Int) ≤ (j : Int) ∧ (j : Int) < (T.length : Int) := by omega
          obtain ⟨f1, f2⟩ := f1
          generalize tx (A ++ 59 :: numsT ((sizesOf T).take j)) = S at *
          generalize tx (Lib.itoa (t.size : Int)) = D at *
          generalize tx (joinT (T.take j)) = J at *
          have n1 : ¬ 9223372036854775807 < S.size + 1 := by omega
          have n2 : ¬ 9223372036854775807 < S.size + 1 + D.size := by omega
          have n4 : ¬ 9223372036854775807 < J.size + t.size := by omega
          clear hlk hn hbl
          go_wp2_with fail
          refine HI.out.mono ?_
          rintro e w1 ⟨rfl, b1⟩
          replace c2'' := cell_later b1 c2''
          replace d0 := cell_later b1 d0
          go_wp2
          go_roundw
          case rel => exact ⟨j + 1, by omega, by go_num, (by rw [HST2.out]), (by rw [HJ2.out]), HBL.out.trans (b1.mono HBL.out.size)⟩
          case measure => (simp [intOf]; try omega)
        · have htk : (sizesOf T).take j = sizesOf T := List.take_of_length_le (by unfold sizesOf; rw [List.length_map]; omega)
          have htj : T.take j = T := List.take_of_length_le (by omega)
          rw [htk, htj]
          rw [htk] at hsz
          rw [htj] at hjz
          have HFIN : Hid (((tx (A ++ 59 :: numsT (sizesOf T)) ++ ⟨#[10]⟩) ++ tx (joinT T)) ++ ⟨#[46]⟩ = tx (entT (k, N, T))) := by
            show _ = _
            subst hA
            unfold entT
            apply tl_inj
            rw [tl, tl, tx_list]
            simp [tx, ByteArray.data_append]
          generalize tx (A ++ 59 :: numsT (sizesOf T)) = S at *
          generalize tx (joinT T) = J at *
          have n1 : ¬ 9223372036854775807 < S.size + 1 := by omega
          have n2 : ¬ 9223372036854775807 < S.size + 1 + J.size := by omega
          have n3 : ¬ 9223372036854775807 < S.size + 1 + J.size + 1 := by omega
          have hlt3 : decide (j < T.length) = false := by simpa using hlt
          clear hbl htk htj
          go_wp2
          go_ret
          exact ⟨by rw [← HFIN.out]; rfl, HBW2.out⟩
end Go.Proofs.YtkodbldfoldbjaaDoor
