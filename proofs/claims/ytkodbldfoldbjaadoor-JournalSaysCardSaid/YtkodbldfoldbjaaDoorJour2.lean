/- The journal: the numbers behind a kind: numbers and the reference figures. -/
import Derived.Test.YtkodbldfoldbjaaDoorJourLaw
import Derived.Test.YtkodbldfoldbjaaDoorPair5
import Derived.Test.YtkodbldfoldbjaaDoorNums
set_option linter.unusedSimpArgs false
set_option linter.unusedVariables false
namespace Go.Proofs.YtkodbldfoldbjaaDoor
open Go.RowKit

def numsV (S : List UInt8) : List Int := (numsS S).getD []
def NumsPost (S : List UInt8) (w : World) (e : Ending) (w' : World) : Prop :=
  (∃ ao cap, e = .returned (.tuple #[.slice ao (numsV S).length cap, .bool (numsS S).isSome]) ∧ Own 1 encInt 3 w' w.heap.size (.slice ao (numsV S).length cap) (numsV S)) ∧ Below w.heap.size w w'
theorem NumsPost.bad {S : List UInt8} {w w' : World} (h : numsS S = none) (hb : Below w.heap.size w w') : NumsPost S w (.returned (.tuple #[.slice none 0 0, .bool false])) w' := by
  unfold NumsPost numsV
  rw [h]
  exact ⟨⟨none, 0, rfl, Own.nil⟩, hb⟩
theorem NumsPost.good {S : List UInt8} {w w' : World} {v : Value} {N : List Int} (h : numsS S = some N) (ho : Own 1 encInt 3 w' w.heap.size v N) (hb : Below w.heap.size w w') : NumsPost S w (.returned (.tuple #[v, .bool true])) w' := by
  obtain ⟨⟨ao, cap, rfl⟩, _⟩ := id ho
  unfold NumsPost numsV
  rw [h]
  exact ⟨⟨ao, cap, rfl, ho⟩, hb⟩
theorem splitAt_word (c : UInt8) : ∀ (n : Nat) (l : List UInt8), l.length ≤ n → ∀ w ∈ splitAt c l, w.length ≤ l.length
  | 0, l, h, w, hw => by
    obtain rfl := List.length_eq_zero_iff.1 (Nat.le_zero.1 h)
    rw [splitAt_no (by simp)] at hw
    rw [List.mem_singleton.1 hw]; exact Nat.le_refl _
  | n + 1, l, h, w, hw => by
    rcases first_of c l with hc | ⟨A, B, rfl, hA⟩
    · rw [splitAt_no hc] at hw
      rw [List.mem_singleton.1 hw]; exact Nat.le_refl _
    · rw [splitAt_yes hA] at hw
      rw [List.length_append, List.length_cons] at h ⊢
      rcases List.mem_cons.1 hw with e | e
      · rw [e]; omega
      · have := splitAt_word c n B (by omega) w e
        omega
theorem numsL_drop {ws : List (List UInt8)} {k : Nat} {x : List UInt8} (h : ws[k]? = some x) : numsL (ws.drop k) = (numS x).bind fun n => (numsL (ws.drop (k + 1))).map (n :: ·) := by
  obtain ⟨hlt, hx⟩ := List.getElem?_eq_some_iff.1 h
  rw [List.drop_eq_getElem_cons hlt, hx, numsL_cons]
theorem numsL_acc {ws : List (List UInt8)} {k : Nat} {x : List UInt8} {acc : List Int} {r : Option (List Int)} (hr : r = (numsL (ws.drop k)).map (acc ++ ·)) (h : ws[k]? = some x) :
    (numOk x = false → r = none) ∧ (numOk x = true → r = (numsL (ws.drop (k + 1))).map ((acc ++ [atoiV x]) ++ ·)) := by
  rw [numsL_drop h] at hr
  constructor
  · intro h1
    rw [numOk_none h1] at hr
    exact hr
  · intro h1
    rw [numOk_val h1] at hr
    rw [hr]
    cases numsL (List.drop (k + 1) ws) <;> simp
theorem splitAt_count (c : UInt8) (l : List UInt8) : (splitAt c l).length ≤ l.length + 1 := splitAt_len c l
set_option maxRecDepth 100000 in
set_option maxHeartbeats 2000000 in
theorem numbers_any (s : ByteArray) (w : World) (hg : GW w) (hs : s.size ≤ 1000000) :
    Calls Tryd.prog 80 #[.string s] w (NumsPost s.data.toList w) := by
  obtain ⟨i0, hi, hz0, hz1, hz2⟩ := info_parts infoInt
  have HG := hide hg
  clear hg
  have hsl := tl_len s
  obtain ⟨S, hS⟩ : ∃ S, s.data.toList = S := ⟨_, rfl⟩
  obtain rfl : s = tx S := by rw [← hS, tx_of]
  rw [tx_list]
  rw [tx_list] at hsl
  clear hS
  rcases S with _ | ⟨c, r⟩
  · have e1 : (tx ([] : List UInt8)).toList.isEmpty = true := by rw [tl]; rfl
    have e2 : (tx ([] : List UInt8)).toList = [] := by rw [tl]; rfl
    go_enter Tryd.func80, Tryd.ntmps80
    go_wp2
    go_ret2
    exact NumsPost.good rfl Own.nil (Below.refl _ _)
  have e1 : (tx (c :: r)).toList.isEmpty = false := by rw [tl, tx_list]; rfl
  have hp : 0 < (tx (c :: r)).size := by rw [tx_size]; simp
  have hat : (tx (c :: r))[0] = c := tx_at rfl hp
  by_cases hc : c = 32
  case neg =>
    have HE : Hid (numsS (c :: r) = none) := by
      show (if c = 32 then numsL (splitAt 32 r) else none) = _
      rw [if_neg hc]
    have g1 : ((c.toNat : Int) == 32) = false := by
      rw [beq_eq_false_iff_ne]; intro e; exact hc (UInt8.toNat_inj.1 (by show c.toNat = 32; omega))
    clear hc
    go_enter Tryd.func80, Tryd.ntmps80
    go_wp2
    go_ret2
    exact NumsPost.bad HE.out (Below.refl _ _)
  subst hc
  have HE : Hid (numsS (32 :: r) = numsL (splitAt 32 r)) := by
    show (if (32 : UInt8) = 32 then numsL (splitAt 32 r) else none) = _
    rw [if_pos rfl]
  have hext : (tx (32 :: r)).extract 1 (tx (32 :: r)).size = tx r := tx_extD (32 :: r) 1
  have hrl : r.length + 1 = (tx (32 :: r)).size := by rw [tx_size]; simp
  have HS := hide (Split_one 32 (tx r) w HG.out.gm (by rw [tx_size]; omega))
  rw [tx_list] at HS
  have hlen : (splitAt 32 r).length ≤ 1000001 := by have := splitAt_len 32 r; omega
  have HWL : Hid (∀ x ∈ splitAt 32 r, x.length ≤ 1000000) := fun x hx => by have := splitAt_word 32 _ r (Nat.le_refl _) x hx; omega
  generalize splitAt 32 r = ws at *
  have hpl : (ws.map tx).length = ws.length := List.length_map ..
  have g1 : (((32 : UInt8).toNat : Int) == 32) = true := rfl
  go_enter Tryd.func80, Tryd.ntmps80
  go_wp2_with fail
  refine HS.out.mono ?_
  rintro e w1 ⟨rfl, rfl⟩
  have hsw : Sl 1 encS (w.alloc (.cells ((ws.map tx).map Value.string).toArray 9)) (some ⟨w.heap.size, 0, none⟩) (ws.map tx) := Sl.lit encS_len (heap_new _ _) (flat_str _).symm
  have hb1 : Below w.heap.size w (w.alloc (.cells ((ws.map tx).map Value.string).toArray 9)) := (Below.refl _ _).alloc (Nat.le_refl _) _
  have HSW := hide hsw
  have HB1 := hide hb1
  have hlt1 : w.heap.size < (w.alloc (.cells ((ws.map tx).map Value.string).toArray 9)).heap.size := by simp
  generalize w.alloc (.cells ((ws.map tx).map Value.string).toArray 9) = w1 at *
  rw [hpl]
  have HNE := hide hlt1
  clear HS hsw hb1 hat hext hrl hp g1 e1 hlt1
  go_wp2_with fail
  go_loopw [4, 18] (fun v i wr => ∃ (k : Nat) (acc : List Int), k ≤ ws.length ∧ i = .int .i64 k ∧ acc.length ≤ k ∧ Hid (numsS (32 :: r) = (numsL (ws.drop k)).map (acc ++ ·)) ∧ Own 1 encInt 3 wr w1.heap.size v acc ∧ Below w1.heap.size w1 wr) (fun _ i _ => ws.length - (intOf i).toNat)
  case atStart => exact ⟨0, [], by omega, rfl, by simp, (by show _ = _; rw [HE.out, List.drop_zero]; cases numsL ws <;> simp), Own.nil, Below.refl _ _⟩
  case round =>
    obtain ⟨k, acc, hk, rfl, hacc, HA, hown, hbl⟩ := hrel
    have HBW := hide (HB1.out.trans (hbl.mono HB1.out.size))
    by_cases hlt : k < ws.length
    · obtain ⟨b, off, x, e1, hbw, hlk, c0⟩ := (HSW.out.later hbl (Nat.le_refl _)).str (k := k) (by rw [hpl]; exact hlt)
      cases e1
      rw [Nat.zero_add] at c0
      obtain ⟨wd, hwd, rfl⟩ : ∃ wd, ws[k]? = some wd ∧ x = tx wd := by
        rw [List.getElem?_map] at hlk
        obtain ⟨a, ha, e⟩ := Option.map_eq_some_iff.1 hlk
        exact ⟨a, ha, e.symm⟩
      obtain ⟨hA0, hA1⟩ := numsL_acc HA.out hwd
      have HA0 := hide hA0
      have HA1 := hide hA1
      have hwl := HWL.out wd (List.mem_of_getElem? hwd)
      have HAT := hide (Atoi_any (tx wd) wr (HG.out.later HBW.out (Nat.le_refl _)) (by rw [tx_size]; exact hwl))
      unfold AtoiPost at HAT
      simp only [tx_list] at HAT
      have HIT := hide fun w' (hb : Below wr.heap.size wr w') => Itoa_any (atoiV wd) w' (HG.out.later (HBW.out.trans (hb.mono HBW.out.size)) (Nat.le_refl _)) (atoiV_bd (l := wd)).1 (atoiV_bd (l := wd)).2
      have HOK := hide (numOk_eq wd)
      have f1 : (0 : Int) ≤ (k : Int) ∧ (k : Int) < (ws.length : Int) := by omega
      obtain ⟨f1, f2⟩ := f1
      generalize atoiV wd = av at *
      generalize hok : atoiOk wd = ok at *
      clear hlk hA0 hA1 hok hwl hwd HA
      have HOW := hide hown
      have HBL := hide hbl
      obtain ⟨⟨oa, oc, rfl⟩, _⟩ := id hown
      clear hown hbl
      go_wp2_with fail
      refine HAT.out.mono ?_
      rintro e w2 ⟨⟨ev, rfl, hev⟩, b2⟩
      have HB2 := hide (HBW.out.trans (b2.mono HBW.out.size))
      have HBL2 := hide (HBL.out.trans (b2.mono HBL.out.size))
      have HOW2 := hide (HOW.out.later b2)
      have HI2 := hide (HIT.out w2 b2)
      clear b2 HAT HIT HOW
      rcases hev with ⟨rfl, rfl⟩ | ⟨rfl, t, v, rfl⟩
      · by_cases hit : Lib.itoa av = wd
        · have HT : Hid (numsS (32 :: r) = (numsL (ws.drop (k + 1))).map ((acc ++ [av]) ++ ·)) := HA1.out (by rw [HOK.out]; simp [hit])
          have hdd := beqq (tx wd)
          rw [hit] at HI2
          clear HA0 HA1 HOK
          go_wp2_with fail
          refine HI2.out.mono ?_
          rintro e w3 ⟨rfl, b3⟩
          have HB3 := hide (HB2.out.trans (b3.mono HB2.out.size))
          have HBL3 := hide (HBL2.out.trans (b3.mono HBL2.out.size))
          have hw3 := HBL3.out.size
          have hOW3 := HOW2.out.later b3
          clear b3 HI2
          go_wp2_with (at_builtin; refine wpList_append_one encInt_len _ _ 61 i0 _ rfl rfl Tryd.underlying61 hi hz0 hz1 hz2 rfl (by decide) (by decide) (hOW3.alloc _) (HBL3.out.alloc hw3 _) ?c1 ?c2 rfl av ⟨w3.heap.size, 0, none⟩ 1 rfl ?c3 ?c4 ?_)
          case c1 => simp; omega
          case c2 => omega
          case c3 => exact news_cells w3 _ rfl
          case c4 => exact one_int av
          intro v' w4 ho hb _ _
          go_wp2
          go_roundw
          case rel => exact ⟨k + 1, acc ++ [av], by omega, by go_num, by simp; omega, HT, ho, hb⟩
          case measure => (simp [intOf]; try omega)
        · have HT : Hid (numsS (32 :: r) = none) := HA0.out (by rw [HOK.out]; simp [hit])
          have hdd : ((tx (Lib.itoa av)).toList == (tx wd).toList) = false := bneq fun e => hit (tx_inj e)
          clear HA0 HA1 HOK
          go_wp2_with fail
          refine HI2.out.mono ?_
          rintro e w3 ⟨rfl, b3⟩
          have HB3 := hide (HB2.out.trans (b3.mono HB2.out.size))
          clear b3 HI2
          go_wp2
          go_ret2
          exact NumsPost.bad HT.out HB3.out
      · have HT : Hid (numsS (32 :: r) = none) := HA0.out (by rw [HOK.out]; rfl)
        clear HA0 HA1 HOK
        go_wp2
        go_ret2
        exact NumsPost.bad HT.out HB2.out
    · obtain rfl : k = ws.length := by omega
      have HT : Hid (numsS (32 :: r) = some acc) := by
        show _ = _
        rw [HA.out, List.drop_length, numsL_nil]
        simp
      clear HA
      obtain ⟨⟨oa, oc, rfl⟩, _⟩ := id hown
      have HOW := hide (hown.base_le (Nat.le_of_lt HNE.out))
      clear hown
      go_wp2
      go_ret2
      exact NumsPost.good HT.out HOW.out HBW.out
theorem figs_step {S : List UInt8} {i m : Nat} {acc : List Int} {r : Option (List Int)} (hr : r = (numsS (S.drop i)).map (acc ++ ·)) (hc : S[i]? = some 32) (hw : (32 : UInt8) ∉ (S.drop (i + 1)).take m) (he : S.drop (i + 1 + m) = [] ∨ (S.drop (i + 1 + m)).head? = some 32) :
    (numOk ((S.drop (i + 1)).take m) = false → r = none) ∧ (numOk ((S.drop (i + 1)).take m) = true → r = (numsS (S.drop (i + 1 + m))).map ((acc ++ [atoiV ((S.drop (i + 1)).take m)]) ++ ·)) := by
  obtain ⟨hlt, hx⟩ := List.getElem?_eq_some_iff.1 hc
  have h1 : S.drop i = 32 :: ((S.drop (i + 1)).take m ++ S.drop (i + 1 + m)) := by
    rw [List.drop_eq_getElem_cons hlt, hx, ← List.drop_drop (j := i + 1), List.take_append_drop]
  rw [h1, numsS_cons hw he] at hr
  constructor
  · intro h2
    rw [numOk_none h2] at hr
    exact hr
  · intro h2
    rw [numOk_val h2] at hr
    rw [hr]
    cases numsS (S.drop (i + 1 + m)) <;> simp
theorem tx_mid {S : List UInt8} {p : Nat} {c : UInt8} (h : S[p]? = some c) : (tx S).extract p (p + 1) = tx [c] := by
  obtain ⟨hlt, hx⟩ := List.getElem?_eq_some_iff.1 h
  apply tl_inj
  rw [tl, tl, tx_list]
  simp only [tx, ByteArray.data_extract, List.extract_toArray, List.extract_eq_take_drop]
  rw [List.drop_eq_getElem_cons hlt, hx, show p + 1 - p = 1 by omega]
  rfl
theorem take_tx {S : List UInt8} {a m : Nat} {c : UInt8} (h : S[a + m]? = some c) : tx ((S.drop a).take m) ++ tx [c] = tx ((S.drop a).take (m + 1)) := by
  have h2 : (S.drop a)[m]? = some c := by rw [List.getElem?_drop]; exact h
  obtain ⟨hlt, hx⟩ := List.getElem?_eq_some_iff.1 h2
  rw [List.take_succ_eq_append_getElem hlt, hx]
  apply tl_inj
  rw [tl, tl, tx_list]
  simp [tx, ByteArray.data_append]
set_option maxRecDepth 100000 in
set_option maxHeartbeats 2000000 in
theorem figures_any (s : ByteArray) (w : World) (hs : s.size ≤ 1000000) :
    Calls Tryd.prog 82 #[.string s] w (NumsPost s.data.toList w) := by
  obtain ⟨i0, hi, hz0, hz1, hz2⟩ := info_parts infoInt
  have hsl := tl_len s
  obtain ⟨S, hS⟩ : ∃ S, s.data.toList = S := ⟨_, rfl⟩
  obtain rfl : s = tx S := by rw [← hS, tx_of]
  rw [tx_list]
  rw [tx_list] at hsl
  clear hS
  have HSZ := hide hsl
  have hS1 : S.length ≤ 1000000 := by omega
  clear hsl
  go_enter Tryd.func82, Tryd.ntmps82
  go_wp2_with fail
  go_loopw [4, 5] (fun v i wr => ∃ (k : Nat) (acc : List Int), k ≤ S.length ∧ i = .int .i64 k ∧ acc.length ≤ k ∧ Hid (numsS S = (numsS (S.drop k)).map (acc ++ ·)) ∧ Own 1 encInt 3 wr w.heap.size v acc ∧ Below w.heap.size w wr) (fun _ i _ => S.length - (intOf i).toNat)
  case atStart => exact ⟨0, [], by omega, rfl, by simp, (by show _ = _; rw [List.drop_zero]; cases numsS S <;> simp), Own.nil, Below.refl _ _⟩
  case round =>
    obtain ⟨k, acc, hk, rfl, hacc, HA, hown, hbl⟩ := hrel
    have HOW := hide hown
    have HBL := hide hbl
    obtain ⟨⟨oa, oc, rfl⟩, _⟩ := id hown
    clear hown hbl
    by_cases hlt : k < S.length
    · obtain ⟨c, hc⟩ : ∃ c, S[k]? = some c := ⟨_, List.getElem?_eq_getElem hlt⟩
      have hp : k < (tx S).size := by rw [tx_size]; exact hlt
      have hat : (tx S)[k] = c := tx_at hc hp
      have e1 : decide (k < (tx S).size) = true := by simpa using hp
      have f1 : (0 : Int) ≤ (k : Int) ∧ (k : Int) < ((tx S).size : Int) := by omega
      obtain ⟨f1, f2⟩ := f1
      by_cases hc32 : c = 32
      case neg =>
        have HT : Hid (numsS S = none) := by
          show _ = _
          obtain ⟨h1, h2⟩ := List.getElem?_eq_some_iff.1 hc
          rw [HA.out, List.drop_eq_getElem_cons h1, h2]
          show ((if c = 32 then numsL (splitAt 32 _) else none) : Option (List Int)).map _ = _
          rw [if_neg hc32]
          rfl
        have g1 : ((c.toNat : Int) == 32) = false := by
          rw [beq_eq_false_iff_ne]; intro e; exact hc32 (UInt8.toNat_inj.1 (by show c.toNat = 32; omega))
        clear hc hc32 HA
        go_wp2
        go_ret2
        exact NumsPost.bad HT.out HBL.out
      subst hc32
      have g1 : (((32 : UInt8).toNat : Int) == 32) = true := rfl
      have HC := hide hc
      clear hc
      go_wp2_with fail
      clear g1 hat f1 f2 e1 hp
      go_loopw [5, 6] (fun i v wi => ∃ p m : Nat, Hid (p = k + 1 + m) ∧ k < p ∧ p ≤ S.length ∧ i = .int .i64 p ∧ v = .string (tx ((S.drop (k + 1)).take m)) ∧ Hid ((32 : UInt8) ∉ (S.drop (k + 1)).take m) ∧ wr = wi) (fun i _ _ => S.length - (intOf i).toNat)
      case atStart => exact ⟨k + 1, 0, rfl, by omega, by omega, by go_num, rfl, (by show _ ∉ _; simp), rfl⟩
      case round =>
        obtain ⟨p, m, HPM, hkp, hpl, rfl, rfl, HNI, rfl⟩ := hrel
        by_cases hlt2 : p < S.length
        · obtain ⟨c, hc⟩ : ∃ c, S[p]? = some c := ⟨_, List.getElem?_eq_getElem hlt2⟩
          have hp : p < (tx S).size := by rw [tx_size]; exact hlt2
          have hat : (tx S)[p] = c := tx_at hc hp
          have e2 : decide (p < (tx S).size) = true := by simpa using hp
          have f1 : (0 : Int) ≤ (p : Int) ∧ (p : Int) < ((tx S).size : Int) := by omega
          obtain ⟨f1, f2⟩ := f1
          have hc1 : S[k + 1 + m]? = some c := by rw [← HPM.out]; exact hc
          by_cases hc32 : c = 32
          · subst hc32
            have g2 : (((32 : UInt8).toNat : Int) == 32) = true := rfl
            have HE : Hid (S.drop (k + 1 + m) = [] ∨ (S.drop (k + 1 + m)).head? = some 32) := by
              right
              rw [List.head?_drop]
              exact hc1
            clear hc hc1
            obtain ⟨hA0, hA1⟩ := figs_step HA.out HC.out HNI.out HE.out
            rw [← HPM.out] at hA1
            have HA0 := hide hA0
            have HA1 := hide hA1
            have HNB := hide (Number_any (tx ((S.drop (k + 1)).take m)) wr (by rw [tx_size, List.length_take, List.length_drop]; omega))
            rw [tx_list, numOk_ref] at HNB
            have HRV := hide fun h => numOk_refv (l := (S.drop (k + 1)).take m) h
            generalize hwd : (S.drop (k + 1)).take m = wd at *
            generalize refNum wd = rn at *
            obtain ⟨ok, hok⟩ : ∃ ok, numOk wd = ok := ⟨_, rfl⟩
            rw [hok] at HNB HA0 HA1 HRV
            clear hA0 hA1 hok hwd
            cases ok
            · have HT : Hid (numsS S = none) := HA0.out rfl
              clear HA0 HA1 HRV
              go_wp2_with fail
              refine HNB.out.mono ?_
              rintro e w2 ⟨rfl, rfl⟩
              go_wp2
              go_ret2
              exact NumsPost.bad HT.out HBL.out
            · have hrv : rn.1 = atoiV wd := HRV.out rfl
              have HT := hide (HA1.out rfl)
              rw [← hrv] at HT
              obtain ⟨rv, rk⟩ := rn
              clear HA0 HA1 HRV hrv
              have hws := HBL.out.size
              go_wp2_with fail
              refine HNB.out.mono ?_
              rintro e w2 ⟨rfl, rfl⟩
              dsimp only
              go_wp2_with (at_builtin; refine wpList_append_one encInt_len _ _ 61 i0 _ rfl rfl Tryd.underlying61 hi hz0 hz1 hz2 rfl (by decide) (by decide) (HOW.out.alloc _) (HBL.out.alloc hws _) ?c1 ?c2 rfl rv ⟨wr.heap.size, 0, none⟩ 1 rfl ?c3 ?c4 ?_)
              case c1 => simp; omega
              case c2 => omega
              case c3 => exact news_cells wr _ rfl
              case c4 => exact one_int rv
              intro v' w4 ho hb _ _
              go_wp2
              go_roundw
              case rel => exact ⟨p, acc ++ [rv], hpl, by go_num, by simp; omega, HT, ho, hb⟩
              case measure => (simp [intOf]; try omega)
          · have g2 : ((c.toNat : Int) == 32) = false := by
              rw [beq_eq_false_iff_ne]; intro e; exact hc32 (UInt8.toNat_inj.1 (by show c.toNat = 32; omega))
            have hmid : (tx S).extract p (p + 1) = tx [c] := tx_mid hc
            have HTK := hide (take_tx hc1)
            have HNI2 : Hid ((32 : UInt8) ∉ (S.drop (k + 1)).take (m + 1)) := by
              have h2 : (S.drop (k + 1))[m]? = some c := by rw [List.getElem?_drop]; exact hc1
              obtain ⟨h3, h4⟩ := List.getElem?_eq_some_iff.1 h2
              show _ ∉ _
              rw [List.take_succ_eq_append_getElem h3, h4, List.mem_append, not_or]
              exact ⟨HNI.out, by simp; exact fun e => hc32 e.symm⟩
            have hws : (tx ((S.drop (k + 1)).take m)).size ≤ 1000000 := by rw [tx_size, List.length_take, List.length_drop]; omega
            have n1 : ¬ 9223372036854775807 < (tx ((S.drop (k + 1)).take m)).size + (tx [c]).size := by rw [tx_size [c]]; simp; omega
            have n2 : (p : Int) + 1 ≤ ((tx S).size : Int) := by omega
            have n3 : p + 1 ≤ (tx S).size := by omega
            have n4 : ((p : Int) + 1).toNat = p + 1 := by omega
            have HP9 := hide hp
            clear hc hc1 hc32
            go_wp2
            go_roundw
            case rel => exact ⟨p + 1, m + 1, (by show _ = _; rw [HPM.out]; omega), by omega, by omega, by go_num, by rw [HTK.out], HNI2, trivial⟩
            case measure => (simp [intOf]; try omega)
        · have hpe : p = S.length := by omega
          have e2 : decide (p < (tx S).size) = false := by rw [tx_size]; simpa using hlt2
          have e2' : decide ((p : Int) < ((tx S).size : Int)) = false := by rw [tx_size]; simp; omega
          have HE : Hid (S.drop (k + 1 + m) = [] ∨ (S.drop (k + 1 + m)).head? = some 32) := by
            left
            rw [← HPM.out, hpe, List.drop_length]
          clear hpe
          obtain ⟨hA0, hA1⟩ := figs_step HA.out HC.out HNI.out HE.out
          rw [← HPM.out] at hA1
          have HA0 := hide hA0
          have HA1 := hide hA1
          have HNB := hide (Number_any (tx ((S.drop (k + 1)).take m)) wr (by rw [tx_size, List.length_take, List.length_drop]; omega))
          rw [tx_list, numOk_ref] at HNB
          have HRV := hide fun h => numOk_refv (l := (S.drop (k + 1)).take m) h
          generalize hwd : (S.drop (k + 1)).take m = wd at *
          generalize refNum wd = rn at *
          obtain ⟨ok, hok⟩ : ∃ ok, numOk wd = ok := ⟨_, rfl⟩
          rw [hok] at HNB HA0 HA1 HRV
          clear hA0 hA1 hok hwd
          cases ok
          · have HT : Hid (numsS S = none) := HA0.out rfl
            clear HA0 HA1 HRV
            go_wp2_with fail
            refine HNB.out.mono ?_
            rintro e w2 ⟨rfl, rfl⟩
            go_wp2
            go_ret2
            exact NumsPost.bad HT.out HBL.out
          · have hrv : rn.1 = atoiV wd := HRV.out rfl
            have HT := hide (HA1.out rfl)
            rw [← hrv] at HT
            obtain ⟨rv, rk⟩ := rn
            clear HA0 HA1 HRV hrv
            have hws := HBL.out.size
            go_wp2_with fail
            refine HNB.out.mono ?_
            rintro e w2 ⟨rfl, rfl⟩
            dsimp only
            go_wp2_with (at_builtin; refine wpList_append_one encInt_len _ _ 61 i0 _ rfl rfl Tryd.underlying61 hi hz0 hz1 hz2 rfl (by decide) (by decide) (HOW.out.alloc _) (HBL.out.alloc hws _) ?c1 ?c2 rfl rv ⟨wr.heap.size, 0, none⟩ 1 rfl ?c3 ?c4 ?_)
            case c1 => simp; omega
            case c2 => omega
            case c3 => exact news_cells wr _ rfl
            case c4 => exact one_int rv
            intro v' w4 ho hb _ _
            go_wp2
            go_roundw
            case rel => exact ⟨p, acc ++ [rv], hpl, by go_num, by simp; omega, HT, ho, hb⟩
            case measure => (simp [intOf]; try omega)
    · obtain rfl : k = S.length := by omega
      have HT : Hid (numsS S = some acc) := by
        show _ = _
        rw [HA.out, List.drop_length]
        simp [numsS]
      have e1 : decide (S.length < (tx S).size) = false := by rw [tx_size]; simp
      clear HA
      go_wp2
      go_ret2
      exact NumsPost.good HT.out HOW.out HBL.out
end Go.Proofs.YtkodbldfoldbjaaDoor
