/- Numbers and texts: what upTo, Number and Decimal of the document return. -/
import Derived.Test.YtgeedjlbajmdkaaGreatDoorBuild
import Derived.Test.YtgeedjlbajmdkaaGreatDoorSort
import Derived.Test.YtgeedjlbajmdkaaGreatDoorWords2
import Derived.OwnWalk
set_option linter.unusedSimpArgs false
set_option linter.unusedVariables false
namespace Go.Proofs.YtgeedjlbajmdkaaGreatDoor
open Go.RowKit

theorem tx_take (s : ByteArray) (k : Nat) : tx (s.data.toList.take k) = s.extract 0 k := by
  have e : (s.extract 0 k).data.toList = s.data.toList.take k := by rw [Lib.extract_data]; simp
  rw [← tx_of (s.extract 0 k), e]
theorem tx_drop (s : ByteArray) (k : Nat) : tx (s.data.toList.drop k) = s.extract k s.size := by
  have e : (s.extract k s.size).data.toList = s.data.toList.drop k := by
    rw [Lib.extract_data, List.take_of_length_le]
    rw [List.length_drop, tl_len]; omega
  rw [← tx_of (s.extract k s.size), e]
set_option maxHeartbeats 1000000 in
theorem UpTo_any (s : ByteArray) (c : UInt8) (w : World) (hs : s.size ≤ 1000000) :
    Calls Tryz.prog 54 #[.string s, .int .u8 (c.toNat : Int)] w fun e w' => e = .returned (.tuple #[.string (tx (cutAt c s.data.toList).1), .string (tx (cutAt c s.data.toList).2.1), .bool (cutAt c s.data.toList).2.2]) ∧ Below w.heap.size w w' := by
  go_enter Tryz.func54, Tryz.ntmps54
  go_wp2
  go_loop [7] (fun i => ∃ k : Nat, k ≤ s.size ∧ i = .int .i64 k ∧ Hid (c ∉ s.data.toList.take k)) (fun i => s.size - (intOf i).toNat)
  case atStart => exact ⟨0, by omega, by go_num, by simp [Hid]⟩
  case round =>
    obtain ⟨k, hk, rfl, H⟩ := hrel
    by_cases hlt : k < s.size
    · have f1 : (0 : Int) ≤ (k : Int) ∧ (k : Int) < (s.size : Int) ∧ (k : Int) + 1 ≤ (s.size : Int) := by omega
      obtain ⟨f1, f2, f3⟩ := f1
      have hx : s.data.toList.take (k + 1) = s.data.toList.take k ++ [s[k]] := bytes_take_succ hlt
      by_cases hc : s[k] = c
      · have HE : Hid (cutAt c s.data.toList = (s.data.toList.take k, s.data.toList.drop (k + 1), true)) := by
          show _ = _
          have := cutAt_yes (B := s.data.toList.drop (k + 1)) H.out
          rw [← this]
          congr 1
          conv => lhs; rw [← List.take_append_drop (k + 1) s.data.toList, hx, hc]
          simp
        have HT := hide (tx_take s k)
        have HD := hide (tx_drop s (k + 1))
        have g2 : ((s[k].toNat : Int) == (c.toNat : Int)) = true := by rw [hc, beq_iff_eq]
        clear hc hx H
        go_wp2
        go_quiet (fail)
        go_wp2
        go_ret3
        refine ⟨?_, below_drewN (Below.refl _ _) _⟩
        rw [HE.out, HT.out, HD.out]
        rfl
      · have H2 : Hid (c ∉ s.data.toList.take (k + 1)) := by
          show _ ∉ _
          rw [hx]
          intro h
          rcases List.mem_append.1 h with h | h
          · exact H.out h
          · exact hc (List.mem_singleton.1 h).symm
        have g2 : ((s[k].toNat : Int) == (c.toNat : Int)) = false := by
          rw [beq_eq_false_iff_ne]; intro e; exact hc (UInt8.toNat_inj.1 (by omega))
        clear hc hx H
        go_wp2
        go_round
        case rel => exact ⟨k + 1, by omega, by go_num, H2⟩
        case measure => (simp [intOf]; omega)
    · obtain rfl : k = s.size := by omega
      have HE : Hid (cutAt c s.data.toList = (s.data.toList, [], false)) := by
        have := H.out
        rw [List.take_of_length_le (by rw [tl_len]; omega)] at this
        exact cutAt_no this
      have HT := hide (tx_of s)
      go_wp2
      go_ret3
      refine ⟨?_, Below.refl _ _⟩
      rw [HE.out, HT.out]
      rfl
theorem magS_yes {s : ByteArray} (hp : 0 < s.size) (hc : s[0] = 45) : magS s.data.toList = (s.extract 1 s.size).data.toList := by
  have e : (s.extract 1 s.size).data.toList = s.data.toList.drop 1 := by rw [← tx_drop, tx_list]
  rw [e]
  unfold magS
  rw [if_pos]
  rw [List.head?_eq_getElem?]
  show s.data.toList[0]? = _
  have : s.data.toList[0]? = some s[0] := by simp [ByteArray.getElem_eq_getElem_data, hp]
  rw [this, hc]
theorem magS_no {s : ByteArray} (h : ∀ hp : 0 < s.size, s[0] ≠ 45) : magS s.data.toList = s.data.toList := by
  unfold magS
  rw [if_neg]
  intro e
  rw [List.head?_eq_getElem?] at e
  have hp : 0 < s.size := by
    rcases Nat.eq_zero_or_pos s.size with h0 | h0
    · have : s.data.toList.length = 0 := by rw [tl_len]; exact h0
      rw [List.length_eq_zero_iff.1 this] at e; cases e
    · exact h0
  have : s.data.toList[0]? = some s[0] := by simp [ByteArray.getElem_eq_getElem_data, hp]
  rw [this] at e
  exact h hp (by simpa using e)
theorem dig_byte {c : UInt8} : isDig c = (!decide ((c.toNat : Int) < 48) && !decide (57 < (c.toNat : Int))) := by
  unfold isDig
  rw [Bool.eq_iff_iff]; simp; omega
theorem digV_take {t : ByteArray} {k : Nat} (h : k < t.size) : digV 0 (t.data.toList.take (k + 1)) = 10 * digV 0 (t.data.toList.take k) + (t[k].toNat - 48) := by
  rw [show t.data.toList.take (k + 1) = t.data.toList.take k ++ [t[k]] from bytes_take_succ h, digV_snoc]
theorem digV_bd {t : ByteArray} {k : Nat} (h19 : t.size ≤ 19) (hk : k ≤ t.size) (hd : t.data.toList.all isDig = true) (hx : ¬ (t.data.toList.length = 19 ∧ 9223372036854775807 < digV 0 t.data.toList)) : digV 0 (t.data.toList.take k) ≤ 9223372036854775807 := by
  have hd' : ∀ c ∈ t.data.toList, isDig c = true := List.all_eq_true.1 hd
  have e : t.data.toList = t.data.toList.take k ++ t.data.toList.drop k := (List.take_append_drop k _).symm
  have happ : ∀ (a b : List UInt8) (acc : Nat), digV acc (a ++ b) = digV (digV acc a) b := by
    intro a
    induction a with
    | nil => intro b acc; rw [List.nil_append, digV_nil]
    | cons c a ih => intro b acc; rw [List.cons_append, digV_cons, digV_cons, ih]
  have hm := digV_mono (t.data.toList.drop k) (digV 0 (t.data.toList.take k))
  rw [← happ, ← e] at hm
  by_cases h : t.data.toList.length = 19
  · have : ¬ 9223372036854775807 < digV 0 t.data.toList := fun h2 => hx ⟨h, h2⟩
    omega
  · have h1 := digV_lt t.data.toList 0 hd'
    rw [tl_len] at h h1
    have h2 : 10 ^ t.size ≤ 10 ^ 18 := Nat.pow_le_pow_right (by decide) (by omega)
    have h3 : (0 + 1) * 10 ^ t.size = 10 ^ t.size := by rw [Nat.zero_add, Nat.one_mul]
    have h4 : (10 : Nat) ^ 18 = 1000000000000000000 := by decide
    omega
theorem bl_gt (a b : List UInt8) : (!Op.bytesLess a b && !a == b) = Op.bytesLess b a := by
  rcases bl_tri a b with h | h | h
  · rw [h, bl_asymm h]; rfl
  · subst h; rw [bl_irrefl]; simp
  · rw [h, bl_asymm h]
    have : (a == b) = false := by
      rw [beq_eq_false_iff_ne]; intro e; subst e; rw [bl_irrefl] at h; cases h
    rw [this]; rfl
theorem wrap64_in {x : Int} (h0 : -9223372036854775808 ≤ x) (h1 : x ≤ 9223372036854775807) : wrap64 x = x := by unfold wrap64; omega
def refNum2 (t s : ByteArray) : Int × Bool := if t.data.toList.all isDig = true then (if t.data.toList.length = 19 ∧ 9223372036854775807 < digV 0 t.data.toList then (-9223372036854775808, decide (s.data.toList = min20)) else (if t.data.toList.length < s.data.toList.length then -(digV 0 t.data.toList : Int) else digV 0 t.data.toList, true)) else (0, false)
set_option maxRecDepth 100000 in
set_option maxHeartbeats 2000000 in
theorem Number_any (s : ByteArray) (w : World) (hs : s.size ≤ 1000000) :
    Calls Tryz.prog 56 #[.string s] w fun e w' => e = .returned (.tuple #[.int .i64 (refNum s.data.toList).1, .bool (refNum s.data.toList).2]) ∧ w = w' := by
  go_enter Tryz.func56, Tryz.ntmps56
  go_upto_region 2 with (fail)
  go_cut [16] from 9 to 16 (fun v wc => ∃ sg, v = .bool sg ∧ Hid (sg = true → magS s.data.toList = (s.extract 1 s.size).data.toList ∧ 0 < s.size) ∧ Hid (sg = false → magS s.data.toList = s.data.toList) ∧ w = wc)
  case first =>
    by_cases hp : 0 < s.size
    · have g2 : decide ((0 : Int) < (s.size : Int)) = true := by simp; omega
      by_cases hc : s[0] = 45
      · have HM := hide (magS_yes hp hc)
        have g1 : ((s[0].toNat : Int) == 45) = true := by rw [hc]; rfl
        clear hc
        go_wp2
        go_meet
        exact ⟨true, rfl, (fun _ => ⟨HM.out, hp⟩), (fun h => by cases h), rfl⟩
      · have HM := hide (magS_no (s := s) fun _ => hc)
        have g1 : ((s[0].toNat : Int) == 45) = false := by
          rw [beq_eq_false_iff_ne]; intro e; exact hc (UInt8.toNat_inj.1 (by show s[0].toNat = 45; omega))
        clear hc
        go_wp2
        go_meet
        exact ⟨false, rfl, (fun h => by cases h), (fun _ => HM.out), rfl⟩
    · have HM := hide (magS_no (s := s) fun h => absurd h hp)
      have g2 : s.size = 0 := by omega
      go_wp2
      go_meet
      exact ⟨false, rfl, (fun h => by cases h), (fun _ => HM.out), rfl⟩
  case rest =>
  obtain ⟨sg, rfl, HY, HN, rfl⟩ := hcut
  go_upto_if 16 with (fail)
  go_cut [4] from 17 to 18 (fun v wc => ∃ t : ByteArray, v = .string t ∧ Hid (magS s.data.toList = t.data.toList) ∧ t.size ≤ s.size ∧ w = wc)
  case first =>
    rcases Bool.eq_false_or_eq_true sg with hs1 | hs1
    · have hp := (HY.out hs1).2
      have HM := hide (HY.out hs1).1
      subst hs1
      go_wp2
      go_meet
      exact ⟨_, rfl, HM, by rw [ByteArray.size_extract]; omega, rfl⟩
    · have HM := hide (HN.out hs1)
      subst hs1
      go_wp2
      go_meet
      exact ⟨_, rfl, HM, Nat.le_refl _, rfl⟩
  case rest =>
  obtain ⟨t, rfl, HM, hts, rfl⟩ := hcut
  go_upto_region 4 with (fail)
  go_cut [36] from 19 to 36 (fun v wc => ∃ bad, v = .bool bad ∧ Hid (bad = true → refNum s.data.toList = (0, false)) ∧ Hid (bad = false → 0 < t.size ∧ t.size ≤ 19 ∧ refNum s.data.toList = refNum2 t s) ∧ w = wc)
  case first =>
    by_cases h1 : t.size < 1
    · have HR : Hid (refNum s.data.toList = (0, false)) := by
        show _ = _
        unfold refNum; rw [HM.out, if_pos (.inl (by rw [tl_len]; omega))]
      have e1 : t.size = 0 := by omega
      clear HM h1
      go_wp2
      go_meet
      exact ⟨true, rfl, (fun _ => HR.out), (fun h => by cases h), rfl⟩
    have e1 : decide ((t.size : Int) < 1) = false := by simp; omega
    by_cases h2 : 19 < t.size
    · have HR : Hid (refNum s.data.toList = (0, false)) := by
        show _ = _
        unfold refNum; rw [HM.out, if_pos (.inr (.inl (by rw [tl_len]; omega)))]
      have e2 : decide ((19 : Int) < (t.size : Int)) = true := by simp; omega
      clear HM
      go_wp2
      go_meet
      exact ⟨true, rfl, (fun _ => HR.out), (fun h => by cases h), rfl⟩
    have e2 : decide ((19 : Int) < (t.size : Int)) = false := by simp; omega
    have h0 : 0 < t.size := by omega
    have hh : t.data.toList.head? = some t[0] := by
      rw [List.head?_eq_getElem?]
      simp [ByteArray.getElem_eq_getElem_data, h0]
    by_cases h3 : t[0] = 48 ∧ 1 < s.size
    · have HR : Hid (refNum s.data.toList = (0, false)) := by
        show _ = _
        unfold refNum; rw [HM.out, if_pos (.inr (.inr ⟨by rw [hh, h3.1], by rw [tl_len]; exact h3.2⟩))]
      have e3 : ((t[0].toNat : Int) == 48) = true := by rw [h3.1]; rfl
      have e4 : decide ((1 : Int) < (s.size : Int)) = true := by simp; omega
      clear HM hh h3
      go_wp2
      go_meet
      exact ⟨true, rfl, (fun _ => HR.out), (fun h => by cases h), rfl⟩
    have HR : Hid (0 < t.size ∧ t.size ≤ 19 ∧ refNum s.data.toList = refNum2 t s) := by
      refine ⟨h0, by omega, ?_⟩
      unfold refNum refNum2
      rw [HM.out, if_neg]
      rintro (h | h | ⟨h, h'⟩)
      · rw [tl_len] at h; omega
      · rw [tl_len] at h; omega
      · rw [hh] at h; rw [tl_len] at h'; exact h3 ⟨by simpa using h, h'⟩
    by_cases h4 : t[0] = 48
    · have e3 : ((t[0].toNat : Int) == 48) = true := by rw [h4]; rfl
      have e4 : decide ((1 : Int) < (s.size : Int)) = false := by have : ¬ 1 < s.size := fun h => h3 ⟨h4, h⟩; simp; omega
      clear HM hh h3 h4
      go_wp2
      go_meet
      exact ⟨false, rfl, (fun h => by cases h), (fun _ => HR.out), rfl⟩
    · have e3 : ((t[0].toNat : Int) == 48) = false := by
        rw [beq_eq_false_iff_ne]; intro e; exact h4 (UInt8.toNat_inj.1 (by show t[0].toNat = 48; omega))
      clear HM hh h3 h4
      go_wp2
      go_meet
      exact ⟨false, rfl, (fun h => by cases h), (fun _ => HR.out), rfl⟩
  case rest =>
  obtain ⟨bad, rfl, HY, HN, rfl⟩ := hcut
  rcases Bool.eq_false_or_eq_true bad with hb | hb
  · have HR := hide (HY.out hb)
    subst hb
    clear HY HN
    go_wp2
    go_ret2
    exact ⟨by rw [HR.out]; rfl, rfl⟩
  obtain ⟨h0, h19, hr⟩ := HN.out hb
  have HR := hide hr
  subst hb
  clear HY HN hr HM
  go_wp2_with fail
  go_loop [5] (fun i => ∃ k : Nat, k ≤ t.size ∧ i = .int .i64 k ∧ Hid ((t.data.toList.take k).all isDig = true)) (fun i => t.size - (intOf i).toNat)
  case atStart => exact ⟨0, by omega, by go_num, rfl⟩
  case round =>
    obtain ⟨k, hk, rfl, H⟩ := hrel
    by_cases hlt : k < t.size
    · have f1 : (0 : Int) ≤ (k : Int) ∧ (k : Int) < (t.size : Int) ∧ (k : Int) + 1 ≤ (t.size : Int) := by omega
      obtain ⟨f1, f2, f3⟩ := f1
      have hx : t.data.toList.take (k + 1) = t.data.toList.take k ++ [t[k]] := bytes_take_succ hlt
      have hd := dig_byte (c := t[k])
      by_cases hc : isDig t[k] = true
      · have H2 : Hid ((t.data.toList.take (k + 1)).all isDig = true) := by
          show _ = _
          rw [hx, List.all_append, H.out]; simp [hc]
        rw [hd] at hc
        simp only [Bool.and_eq_true, Bool.not_eq_true'] at hc
        obtain ⟨g1, g2⟩ := hc
        clear hx hd H
        go_wp2
        go_round
        case rel => exact ⟨k + 1, by omega, by go_num, H2⟩
        case measure => (simp [intOf]; omega)
      · have H2 : Hid (refNum2 t s = (0, false)) := by
          show _ = _
          unfold refNum2
          rw [if_neg]
          intro h
          exact hc (List.all_eq_true.1 h _ (by rw [← List.take_append_drop (k + 1) t.data.toList, hx]; simp))
        rw [hd] at hc
        by_cases hg : decide ((t[k].toNat : Int) < 48) = true
        · clear hx hd H hc
          go_wp2
          go_ret2
          exact ⟨by rw [HR.out, H2.out]; rfl, rfl⟩
        · have g1 : decide ((t[k].toNat : Int) < 48) = false := by simpa using hg
          have g2 : decide (57 < (t[k].toNat : Int)) = true := by
            rw [g1] at hc
            simpa using hc
          clear hx hd H hc hg
          go_wp2
          go_ret2
          exact ⟨by rw [HR.out, H2.out]; rfl, rfl⟩
    · obtain rfl : k = t.size := by omega
      have hall : t.data.toList.all isDig = true := by
        have := H.out
        rwa [List.take_of_length_le (by rw [tl_len]; omega)] at this
      have HA := hide hall
      clear hall H
      go_upto_region 11 with (fail)
      go_cut [59] from 53 to 59 (fun v wc => ∃ bad, v = .bool bad ∧ Hid (bad = true ↔ t.data.toList.length = 19 ∧ 9223372036854775807 < digV 0 t.data.toList) ∧ w = wc)
      case first =>
        by_cases h1 : t.size = 19
        · have e1 : ((t.size : Int) == 19) = true := by rw [h1]; rfl
          obtain ⟨r, hr⟩ : ∃ r, decide (9223372036854775807 < digV 0 t.data.toList) = r := ⟨_, rfl⟩
          have HRR := hide hr
          have hq : Hid (Op.bytesLess max19 t.toList = r) := by
            show _ = _
            rw [tl]
            have h3 := less_dig max19 t.data.toList 0 (by rw [tl_len, h1]; rfl) (by decide) (List.all_eq_true.1 HA.out)
            rw [show digV 0 max19 = 9223372036854775807 by decide +kernel] at h3
            rw [← hr, ← h3]
          have H1 := hide h1
          clear hr h1
          go_wp2
          go_meet
          exact ⟨r, congrArg Value.bool ((bl_gt t.toList max19).trans hq.out), (by rw [← HRR.out, decide_eq_true_eq]; exact ⟨fun h => ⟨by rw [tl_len]; exact H1.out, h⟩, fun h => h.2⟩), rfl⟩
        · have e1 : ((t.size : Int) == 19) = false := by rw [beq_eq_false_iff_ne]; omega
          go_wp2
          go_meet
          exact ⟨false, rfl, (by constructor; (intro h; cases h); (intro h; exact absurd h.1 (by rw [tl_len]; exact h1))), rfl⟩
      case rest =>
      obtain ⟨big, rfl, HBG, rfl⟩ := hcut
      rcases Bool.eq_false_or_eq_true big with hb | hb
      · have H2 : Hid (refNum2 t s = (-9223372036854775808, decide (s.data.toList = min20))) := by
          show _ = _
          unfold refNum2
          rw [if_pos HA.out, if_pos (HBG.out.1 hb)]
        subst hb
        clear HBG
        go_wp2
        go_ret2
        refine ⟨?_, rfl⟩
        rw [HR.out, H2.out]
        show Ending.returned (.tuple #[.int .i64 (-9223372036854775808), .bool (s.toList == min20)]) = _
        rw [tl]
        by_cases he : s.data.toList = min20
        · simp [he]
        · rw [decide_eq_false he, show (s.data.toList == min20) = false by rw [beq_eq_false_iff_ne]; exact he]
      have hnx : ¬ (t.data.toList.length = 19 ∧ 9223372036854775807 < digV 0 t.data.toList) := fun h => by
        have := HBG.out.2 h
        rw [hb] at this; cases this
      have H2 : Hid (refNum2 t s = (if t.data.toList.length < s.data.toList.length then -(digV 0 t.data.toList : Int) else digV 0 t.data.toList, true)) := by
        show _ = _
        unfold refNum2
        rw [if_pos HA.out, if_neg hnx]
      have HNX := hide hnx
      subst hb
      clear HBG hnx hlt hk
      go_wp2_with fail
      go_loop [6, 7] (fun n i => ∃ k : Nat, k ≤ t.size ∧ i = .int .i64 k ∧ n = .int .i64 (digV 0 (t.data.toList.take k) : Nat)) (fun _ i => t.size - (intOf i).toNat)
      case atStart => exact ⟨0, by omega, by go_num, rfl⟩
      case round =>
        obtain ⟨k, hk, rfl, rfl⟩ := hrel
        have hb := digV_bd h19 hk HA.out HNX.out
        by_cases hlt : k < t.size
        · have f1 : (0 : Int) ≤ (k : Int) ∧ (k : Int) < (t.size : Int) ∧ (k : Int) + 1 ≤ (t.size : Int) := by omega
          obtain ⟨f1, f2, f3⟩ := f1
          have hdg := isDig_iff.1 (List.all_eq_true.1 HA.out t[k] (by
            have hx : t.data.toList.take (k + 1) = t.data.toList.take k ++ [t[k]] := bytes_take_succ hlt
            rw [← List.take_append_drop (k + 1) t.data.toList, hx]; simp))
          obtain ⟨d1, d2⟩ := hdg
          have hb2 := digV_bd h19 (k := k + 1) (by omega) HA.out HNX.out
          have ht := digV_take hlt
          have HT := hide ht
          generalize hV2 : digV 0 (t.data.toList.take (k + 1)) = V2 at *
          have HV2 := hide hV2
          clear hV2
          generalize digV 0 (t.data.toList.take k) = V1 at *
          have hv : V1 ≤ 922337203685477580 := by omega
          clear ht hb
          go_wp2
          go_round
          case rel => exact ⟨k + 1, by omega, by go_num, by rw [wrap64_in (by omega) (by have := HT.out; omega)]; have := HT.out; exact congrArg (Value.int .i64) (by rw [HV2.out, this]; omega)⟩
          case measure => (simp [intOf]; omega)
        · obtain rfl : k = t.size := by omega
          have e := List.take_of_length_le (l := t.data.toList) (i := t.size) (by rw [tl_len]; omega)
          rw [e] at hb ⊢
          have H2' : Hid (refNum2 t s = (if t.size < s.size then -(digV 0 t.data.toList : Int) else digV 0 t.data.toList, true)) := by
            show _ = _
            rw [H2.out, tl_len, tl_len]
          generalize digV 0 t.data.toList = V at *
          clear e hlt hk H2 HNX HA
          by_cases hsg : t.size < s.size
          · have HF : Hid (refNum s.data.toList = (-(V : Int), true)) := by show _ = _; rw [HR.out, H2'.out, if_pos hsg]
            go_wp2
            go_ret2
            exact ⟨by rw [HF.out]; rfl, rfl⟩
          · have HF : Hid (refNum s.data.toList = ((V : Int), true)) := by show _ = _; rw [HR.out, H2'.out, if_neg hsg]
            go_wp2
            go_ret2
            exact ⟨by rw [HF.out]; rfl, rfl⟩
end Go.Proofs.YtgeedjlbajmdkaaGreatDoor
