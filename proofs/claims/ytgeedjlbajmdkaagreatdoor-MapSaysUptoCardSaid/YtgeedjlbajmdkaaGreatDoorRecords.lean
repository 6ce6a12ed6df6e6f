/- Records of an input: mapper.Records, ref.RecordsOf. -/
import Derived.Test.YtgeedjlbajmdkaaGreatDoorBuild
import Derived.Test.YtgeedjlbajmdkaaGreatDoorPair5
import Derived.Test.YtgeedjlbajmdkaaGreatDoorWords
import Derived.Test.YtgeedjlbajmdkaaGreatDoorErr
import Derived.Test.YtgeedjlbajmdkaaGreatDoorTexts
set_option linter.unusedSimpArgs false
set_option linter.unusedVariables false
namespace Go.Proofs.YtgeedjlbajmdkaaGreatDoor
open Go.RowKit

/-- what is wrong with an input; its records -/
def recF (s : List UInt8) : Int :=
  if s = [] then 0 else if s.getLast? ≠ some 10 then 4 else if 60 < (linesR s).length then 2 else if (linesR s).any (fun l => decide (120 < l.length)) = true then 1 else 0
def recL (s : List UInt8) : List (List UInt8) := if s = [] ∨ recF s ≠ 0 then [] else linesR s
theorem recF_nn (s : List UInt8) : 0 ≤ recF s := by unfold recF; repeat' split; all_goals omega
/-- lines of what is left -/
def linesN (s : List UInt8) : List (List UInt8) := if s = [] then [] else linesR s
theorem last_app {A B : List UInt8} (hB : B ≠ []) : (A ++ B).getLast? = B.getLast? := by
  rw [List.getLast?_append, List.getLast?_eq_some_getLast hB]; rfl
theorem lines_step {s : List UInt8} (h0 : s ≠ []) (hl : s.getLast? = some 10) : linesR s = (cutAt 10 s).1 :: linesN (cutAt 10 s).2.1 ∧ ((cutAt 10 s).2.1 = [] ∨ (cutAt 10 s).2.1.getLast? = some 10) ∧ (cutAt 10 s).2.1.length < s.length ∧ (cutAt 10 s).1.length < s.length := by
  rcases first_of 10 s with h | ⟨A, B, rfl, hA⟩
  · exact absurd (List.mem_of_getLast? hl) h
  · rw [cutAt_yes hA]
    simp only
    refine ⟨?_, ?_, by simp; omega, by simp⟩
    · unfold linesR linesN
      by_cases hB : B = []
      · subst hB
        rw [if_pos rfl]
        unfold trim10
        rw [if_pos (by simp), List.dropLast_concat, splitAt_no hA]
      · rw [if_neg hB]
        have e1 : (A ++ 10 :: B).getLast? = B.getLast? := by
          rw [show A ++ 10 :: B = (A ++ [10]) ++ B by simp, last_app hB]
        rw [e1] at hl
        have e2 : trim10 (A ++ 10 :: B) = A ++ 10 :: trim10 B := by
          unfold trim10
          rw [if_pos (by rw [e1]; exact hl), if_pos hl, show A ++ 10 :: B = (A ++ [10]) ++ B by simp, List.dropLast_append_of_ne_nil hB]
          simp
        rw [e2, splitAt_yes hA]
        rfl
    · by_cases hB : B = []
      · exact .inl hB
      · right
        rw [← hl, show A ++ 10 :: B = (A ++ [10]) ++ B by simp, last_app hB]
theorem linesR_len (s : List UInt8) : (linesR s).length ≤ s.length + 1 := by
  unfold linesR
  have h := splitAt_len 10 (trim10 s)
  have h2 : (trim10 s).length ≤ s.length := by unfold trim10; split <;> simp
  omega
theorem linesR_mem {s l : List UInt8} (h : l ∈ linesR s) : l.length ≤ s.length := by
  unfold linesR at h
  have h1 := lines_word 10 _ _ (Nat.le_refl _) l h
  have h2 : (trim10 s).length ≤ s.length := by unfold trim10; split <;> simp
  omega
/-- what Records hands back -/
def RecPost (s : List UInt8) (w : World) (e : Ending) (w' : World) : Prop :=
  (∃ lo lc, e = .returned (.tuple #[.slice lo (recL s).length lc, errV (recF s)]) ∧ Sl 1 encS w' lo ((recL s).map tx) ∧ (lo = none → lc = 0) ∧ (∀ b o, lo = some ⟨b, o, none⟩ → w.heap.size ≤ b ∧ b < w'.heap.size) ∧ (recL s).length ≤ lc) ∧ Below w.heap.size w w'
theorem RecPost.none {s : List UInt8} {w w' : World} {e : Ending} (h : recL s = []) (he : e = .returned (.tuple #[.slice none 0 0, errV (recF s)])) (hb : Below w.heap.size w w') : RecPost s w e w' :=
  ⟨⟨Option.none, 0, by rw [h]; exact he, by rw [h]; exact Sl.nil, fun _ => rfl, fun b o e => (by cases e), by rw [h]; exact Nat.le_refl _⟩, hb⟩
theorem Split_rec (c : UInt8) (s : List UInt8) (w : World) (hg : GM w) (hs : s.length ≤ 1000000) :
    Calls Tryz.prog 48 #[.string (tx s), .string ⟨#[c]⟩] w fun e w' => e = .returned (.slice (some ⟨w.heap.size, 0, none⟩) (splitAt c s).length (splitAt c s).length) ∧ Sl 1 encS w' (some ⟨w.heap.size, 0, none⟩) ((splitAt c s).map tx) ∧ w.heap.size < w'.heap.size ∧ Below w.heap.size w w' := by
  have h := Split_one c (tx s) w hg (by rw [tx_size]; exact hs)
  rw [tx_list, List.length_map] at h
  refine h.mono ?_
  rintro e w' ⟨rfl, rfl⟩
  exact ⟨rfl, Sl.lit encS_len (heap_new _ _) (flat_str _).symm, by simp, (Below.refl _ _).alloc (Nat.le_refl _) _⟩
theorem suffix_10 (s : List UInt8) : Lib.hasSuffix s [10] = decide (s.getLast? = some 10) := by
  unfold Lib.hasSuffix
  rw [Bool.eq_iff_iff, List.isSuffixOf_iff_suffix, decide_eq_true_eq]
  constructor
  · rintro ⟨t, rfl⟩
    simp
  · intro h
    rcases List.eq_nil_or_concat s with rfl | ⟨l, x, rfl⟩
    · cases h
    · rw [List.concat_eq_append, List.getLast?_concat] at h
      cases h
      exact ⟨l, by simp⟩
set_option maxRecDepth 100000 in
set_option maxHeartbeats 4000000 in
theorem Records_any (s : List UInt8) (w : World) (hg : GM w) (hs : s.length ≤ 1000000) :
    Calls Tryz.prog 18 #[.string (tx s)] w (RecPost s w) := by
  by_cases h0 : s = []
  · subst h0
    have t1 : ((tx []).toList == []) = true := by rw [tl, tx_list]; rfl
    have HR : Hid (recL [] = [] ∧ errV (recF []) = .nilIface) := ⟨rfl, rfl⟩
    go_enter Tryz.func18, Tryz.ntmps18
    go_wp2
    go_ret2
    exact RecPost.none HR.out.1 (by rw [HR.out.2]; rfl) (Below.refl _ _)
  have t1 : ((tx s).toList == []) = false := by
    rw [tl, tx_list, beq_eq_false_iff_ne]; exact h0
  have HSF : Hid (∀ w', Calls Tryz.prog 61 #[.string (tx s), .string ⟨#[10]⟩] w' fun e w'' => e = .returned (.bool (decide (s.getLast? = some 10))) ∧ w'' = w') := fun w' => by
    have h := Tryz.strings_HasSuffix (tx s) ⟨#[10]⟩ w' (by rw [tx_size]; omega)
    have e10 : (⟨#[10]⟩ : ByteArray).data.toList = [10] := rfl
    rw [tx_list, e10, suffix_10] at h
    exact h
  obtain ⟨sb, hsb⟩ : ∃ sb, decide (s.getLast? = some 10) = sb := ⟨_, rfl⟩
  rw [hsb] at HSF
  cases sb with
  | false =>
    have hl : s.getLast? ≠ some 10 := by simpa using hsb
    have HR : Hid (recF s = 4 ∧ recL s = []) := by
      have h1 : recF s = 4 := by unfold recF; rw [if_neg h0, if_pos hl]
      exact ⟨h1, by unfold recL; rw [h1]; simp⟩
    clear hl hsb h0
    go_enter Tryz.func18, Tryz.ntmps18
    go_wp2_with fail
    refine (HSF.out w).mono ?_
    rintro e w1 ⟨rfl, rfl⟩
    go_wp2
    go_ret2
    exact RecPost.none HR.out.2 (by rw [HR.out.1]; rfl) (Below.refl _ _)
  | true =>
  have hl : s.getLast? = some 10 := by simpa using hsb
  have HT : Hid (∀ w', Calls Tryz.prog 49 #[.string (tx s), .string ⟨#[10]⟩] w' fun e w'' => e = .returned (.string (tx (trim10 s))) ∧ w'' = w') := fun w' => by
    have h := Tryz.strings_TrimSuffix (tx s) ⟨#[10]⟩ w' (by rw [tx_size]; omega)
    have e10 : (⟨#[10]⟩ : ByteArray).data.toList = [10] := rfl
    rw [tx_list, e10, trim10_eq] at h
    exact h
  have htl : (trim10 s).length ≤ 1000000 := by unfold trim10; split <;> (try simp) <;> omega
  have HSP := hide (Split_rec 10 (trim10 s) w hg htl)
  have hL0 : linesR s = splitAt 10 (trim10 s) := rfl
  have hll := linesR_len s
  have HM := hide fun l (h : l ∈ linesR s) => linesR_mem h
  have HRF : Hid (recF s = if 60 < (linesR s).length then 2 else if (linesR s).any (fun l => decide (120 < l.length)) = true then 1 else 0) := by
    show _ = _
    unfold recF; rw [if_neg h0, if_neg (by rw [hl]; simp)]
  have HRL : Hid (recL s = if recF s ≠ 0 then [] else linesR s) := by
    show _ = _
    unfold recL
    by_cases h : recF s ≠ 0
    · rw [if_pos (.inr h), if_pos h]
    · rw [if_neg (fun h2 => h2.elim h0 h), if_neg h]
  rw [← hL0] at HSP
  generalize linesR s = LS at *
  clear hL0 hl hsb h0 hg
  go_enter Tryz.func18, Tryz.ntmps18
  go_wp2_with fail
  refine (HSF.out w).mono ?_
  rintro e w1 ⟨rfl, rfl⟩
  clear HSF
  go_wp2_with fail
  refine (HT.out _).mono ?_
  rintro e w2 ⟨rfl, rfl⟩
  clear HT t1
  go_wp2_with fail
  refine HSP.out.mono ?_
  rintro e w3 ⟨rfl, hsl, hlt, hb⟩
  have HSL := hide hsl
  have HB := hide hb
  have HLT := hide hlt
  clear hsl hb hlt HSP htl
  by_cases h60 : 60 < LS.length
  · have g1 : decide ((60 : Int) < (LS.length : Int)) = true := by simp; omega
    have HR2 : Hid (recF s = 2 ∧ recL s = []) := by
      have h1 : recF s = 2 := by rw [HRF.out, if_pos h60]
      exact ⟨h1, by rw [HRL.out, h1]; rfl⟩
    clear HRF HRL h60
    go_wp2
    go_ret2
    exact RecPost.none HR2.out.2 (by rw [HR2.out.1]; rfl) HB.out
  have g1 : decide ((60 : Int) < (LS.length : Int)) = false := by simp; omega
  obtain ⟨xb, hxb⟩ : ∃ xb, w2.heap.size = xb := ⟨_, rfl⟩
  have HXB := hide hxb
  rw [hxb] at HSL ⊢
  clear hxb
  go_wp2
  go_loopw [22] (fun iv wr => ∃ k : Nat, k ≤ LS.length ∧ iv = .int .i64 k ∧ wr = w3 ∧ Hid (∀ (i : Nat) l, i < k → LS[i]? = some l → l.length ≤ 120)) (fun iv _ => LS.length - (intOf iv).toNat)
  case atStart => exact ⟨0, by omega, rfl, rfl, fun i l h => by omega⟩
  case round =>
    obtain ⟨k, hk, rfl, rfl, HOK⟩ := hrel
    by_cases hlt : k < LS.length
    · obtain ⟨b, off, x0, e1, hbw, hx0, c0⟩ := HSL.out.str (k := k) (by rw [List.length_map]; exact hlt)
      cases e1
      rw [Nat.zero_add] at c0
      obtain ⟨x, hx, rfl⟩ : ∃ x, LS[k]? = some x ∧ x0 = tx x := by
        rw [List.getElem?_map] at hx0
        obtain ⟨a, ha, e⟩ := Option.map_eq_some_iff.1 hx0
        exact ⟨a, ha, e.symm⟩
      have f1 : (0 : Int) ≤ (k : Int) ∧ (k : Int) < (LS.length : Int) := by omega
      obtain ⟨f1, f2⟩ := f1
      have hxs : (tx x).size = x.length := tx_size x
      have HX := hide hx
      by_cases h12 : 120 < x.length
      · have g3 : decide ((120 : Int) < ((tx x).size : Int)) = true := by rw [hxs]; simp; omega
        have g4 : decide ((120 : Int) < (x.length : Int)) = true := by simp; omega
        have HR1 : Hid (recF s = 1 ∧ recL s = []) := by
          have h1 : recF s = 1 := by
            rw [HRF.out, if_neg h60, if_pos]
            rw [List.any_eq_true]
            exact ⟨x, List.mem_of_getElem? HX.out, by simpa using h12⟩
          exact ⟨h1, by rw [HRL.out, h1]; rfl⟩
        clear hx hx0 HRF HRL h12
        go_wp2
        go_ret2
        exact RecPost.none HR1.out.2 (by rw [HR1.out.1]; rfl) HB.out
      · have g3 : decide ((120 : Int) < ((tx x).size : Int)) = false := by rw [hxs]; simp; omega
        have g4 : decide ((120 : Int) < (x.length : Int)) = false := by simp; omega
        have HOK2 : Hid (∀ (i : Nat) l, i < k + 1 → LS[i]? = some l → l.length ≤ 120) := fun i l hi hl => by
          by_cases e : i = k
          · subst e; rw [HX.out] at hl; cases hl; omega
          · exact HOK.out i l (by omega) hl
        clear hx hx0 h12 HOK
        go_wp2
        go_roundw
        case rel => exact ⟨k + 1, by omega, by go_num, by trivial, HOK2⟩
        case measure => (simp [intOf]; try omega)
    · obtain rfl : k = LS.length := by omega
      have g3 : decide (LS.length < LS.length) = false := by simp
      have g4 : decide ((LS.length : Int) < (LS.length : Int)) = false := by simp
      have HR0 : Hid (recF s = 0 ∧ recL s = LS) := by
        have h1 : recF s = 0 := by
          rw [HRF.out, if_neg h60, if_neg]
          rw [List.any_eq_true]
          rintro ⟨l, hl, h⟩
          obtain ⟨i, hi⟩ := List.mem_iff_getElem?.1 hl
          have h3 := HOK.out i l (List.getElem?_eq_some_iff.1 hi).1 hi
          rw [decide_eq_true_eq] at h
          omega
        exact ⟨h1, by rw [HRL.out, h1]; rfl⟩
      clear HRF HRL HOK
      go_wp2
      go_ret2
      exact ⟨⟨some ⟨xb, 0, none⟩, LS.length, by rw [HR0.out.1, HR0.out.2]; rfl, by rw [HR0.out.2]; exact HSL.out, fun h => (by cases h), fun b o e => (by cases e; have h1 := HXB.out; have h2 := HLT.out; exact ⟨by omega, by omega⟩), by rw [HR0.out.2]; exact Nat.le_refl _⟩, HB.out⟩
theorem infoStrR : (Tryz.prog.info? 9).map (fun i => (i.zero, i.size, i.bytes)) = some (some (.string ⟨#[]⟩), 1, 16) := by kernel_rfl
def RecPostR (s : List UInt8) (w : World) (e : Ending) (w' : World) : Prop :=
  (∃ lo lc, e = .returned (.tuple #[.slice lo (recL s).length lc, .int .i64 (recF s)]) ∧ Own 1 encS 9 w' w.heap.size (.slice lo (recL s).length lc) ((recL s).map tx)) ∧ Below w.heap.size w w'
theorem RecPostR.none {s : List UInt8} {w w' : World} {e : Ending} (h : recL s = []) (he : e = .returned (.tuple #[.slice none 0 0, .int .i64 (recF s)])) (hb : Below w.heap.size w w') : RecPostR s w e w' :=
  ⟨⟨Option.none, 0, by rw [h]; exact he, by rw [h]; exact Own.nil⟩, hb⟩
theorem one_str1 : ∀ x : ByteArray, ∀ u ∈ encS x, u.oneCell' = true := fun x u h => by simp [encS] at h; subst h; rfl
set_option maxRecDepth 100000 in
set_option maxHeartbeats 4000000 in
theorem RecordsOf_any (s : List UInt8) (w : World) (hs : s.length ≤ 1000000) :
    Calls Tryz.prog 19 #[.string (tx s)] w (RecPostR s w) := by
  by_cases h0 : s = []
  · subst h0
    have t1 : ((tx []).toList == []) = true := by rw [tl, tx_list]; rfl
    have HR : Hid (recL [] = [] ∧ recF [] = 0) := ⟨rfl, rfl⟩
    go_enter Tryz.func19, Tryz.ntmps19
    go_wp2
    go_ret2
    exact RecPostR.none HR.out.1 (by rw [HR.out.2]; rfl) (Below.refl _ _)
  have t1 : ((tx s).toList == []) = false := by
    rw [tl, tx_list, beq_eq_false_iff_ne]; exact h0
  have hsl : 0 < s.length := List.length_pos_iff.2 h0
  obtain ⟨SB, hSB⟩ : ∃ SB, tx s = SB := ⟨_, rfl⟩
  have hsz : SB.size = s.length := by rw [← hSB]; exact tx_size s
  have f1 : (0 : Int) ≤ (SB.size : Int) - 1 ∧ (SB.size : Int) - 1 < (SB.size : Int) := by omega
  obtain ⟨f1, f2⟩ := f1
  have HSS := hide hSB
  have hlast : ∀ h : s.length - 1 < SB.size, ((SB[s.length - 1].toNat : Int) != 10) = !decide (s.getLast? = some 10) := fun h => by
    subst hSB
    have h2 : s.length - 1 < s.length := by rw [tx_size] at h; exact h
    have e2 : s.getLast? = some s[s.length - 1] := by rw [List.getLast?_eq_getElem?, List.getElem?_eq_getElem h2]
    rw [e2]
    show (((s[s.length - 1].toNat : Nat) : Int) != 10) = _
    by_cases h10 : s[s.length - 1] = 10
    · rw [h10]; rfl
    · have h1 : ((s[s.length - 1].toNat : Int) != 10) = true := by
        rw [bne_iff_ne]; intro e; exact h10 (UInt8.toNat_inj.1 (by show s[s.length - 1].toNat = 10; omega))
      rw [h1]; simp [h10]
  rw [hSB] at t1 ⊢
  have HLA := hide hlast
  clear hSB hlast
  go_enter Tryz.func19, Tryz.ntmps19
  go_upto_region 3 with (fail)
  go_cut [16] from 11 to 16 (fun v wd => v = .bool (!decide (s.getLast? = some 10)) ∧ wd = w)
  case first =>
    go_wp2
    go_meet
    exact ⟨by rw [HLA.out], rfl⟩
  case rest =>
  obtain ⟨rfl, hww⟩ := hcut
  subst hww
  obtain ⟨wz, rfl⟩ : ∃ wz, wz = wc := ⟨_, rfl⟩
  obtain ⟨lb, hlb⟩ : ∃ lb, (!decide (s.getLast? = some 10)) = lb := ⟨_, rfl⟩
  rw [hlb]
  have HLB := hide hlb
  clear hlb HLA f1 f2 t1
  go_upto_if 16 with (fail)
  cases lb with
  | true =>
    have hl : s.getLast? ≠ some 10 := by have := HLB.out; simpa using this
    have HR : Hid (recF s = 4 ∧ recL s = []) := by
      have h1 : recF s = 4 := by unfold recF; rw [if_neg h0, if_pos hl]
      exact ⟨h1, by unfold recL; rw [h1]; simp⟩
    clear hl HLB h0 hsl hsz
    go_wp2
    go_ret2
    exact RecPostR.none HR.out.2 (by rw [HR.out.1]; rfl) (Below.refl _ _)
  | false =>
  have hl : s.getLast? = some 10 := by have := HLB.out; simpa using this
  have HRF : Hid (recF s = if 60 < (linesR s).length then 2 else if (linesR s).any (fun l => decide (120 < l.length)) = true then 1 else 0) := by
    show _ = _
    unfold recF; rw [if_neg h0, if_neg (by rw [hl]; simp)]
  have HRL : Hid (recL s = if recF s ≠ 0 then [] else linesR s) := by
    show _ = _
    unfold recL
    by_cases h : recF s ≠ 0
    · rw [if_pos (.inr h), if_pos h]
    · rw [if_neg (fun h2 => h2.elim h0 h), if_neg h]
  have HLN : Hid (linesN s = linesR s) := by show _ = _; unfold linesN; rw [if_neg h0]
  have HL10 := hide hl
  obtain ⟨i0, hi0, hz0, hz1, hz2⟩ := info_parts infoStrR
  rw [← HSS.out]
  clear HLB hl h0 hsl hsz HSS
  go_wp2
  go_loopw [0, 4, 5] (fun sv lv bv wr => ∃ (R : List UInt8) (l : List (List UInt8)) (b : Bool), Hid (sv = .string (tx R)) ∧ Hid (bv = .bool b) ∧ l.length + R.length ≤ s.length ∧ Hid (R = [] ∨ R.getLast? = some 10) ∧ Hid (Own 1 encS 9 wr wz.heap.size lv (l.map tx)) ∧ Hid (l ++ linesN R = linesR s) ∧ Hid (b = l.any fun x => decide (120 < x.length)) ∧ Hid (Below wz.heap.size wz wr)) (fun sv _ _ _ => strLen sv)
  case atStart => exact ⟨s, [], false, hide rfl, hide rfl, by simp, .inr HL10.out, Own.nil, (by show _ = _; rw [List.nil_append]; exact HLN.out), rfl, Below.refl _ _⟩
  case round =>
    obtain ⟨R, l, b, hsv, hbv, hlR, HR10, HOW, HLL, HBB, HB⟩ := hrel
    obtain rfl := hsv.out
    obtain rfl := hbv.out
    clear hsv hbv
    by_cases hne : R = []
    · subst hne
      have g1 : decide ((0 : Int) < ((tx []).size : Int)) = false := by decide
      have HLE : Hid (l = linesR s) := by have := HLL.out; unfold linesN at this; rw [if_pos rfl, List.append_nil] at this; exact this
      obtain ⟨la, lc, hlv⟩ := id HOW.out.1
      rw [List.length_map] at hlv
      subst hlv
      rw [← HLE.out] at HRF HRL
      clear HLL HLE HLN HL10 HR10
      by_cases h60 : 60 < l.length
      · have g2 : decide ((60 : Int) < (l.length : Int)) = true := by simp; omega
        have HR2 : Hid (recF s = 2 ∧ recL s = []) := by
          have h1 : recF s = 2 := by rw [HRF.out, if_pos h60]
          exact ⟨h1, by rw [HRL.out, h1]; rfl⟩
        clear HRF HRL h60
        go_wp2
        go_ret2
        exact RecPostR.none HR2.out.2 (by rw [HR2.out.1]; rfl) HB.out
      have g2 : decide ((60 : Int) < (l.length : Int)) = false := by simp; omega
      cases b with
      | true =>
        have HR1 : Hid (recF s = 1 ∧ recL s = []) := by
          have h1 : recF s = 1 := by rw [HRF.out, if_neg h60, if_pos HBB.out.symm]
          exact ⟨h1, by rw [HRL.out, h1]; rfl⟩
        clear HRF HRL h60
        go_wp2
        go_ret2
        exact RecPostR.none HR1.out.2 (by rw [HR1.out.1]; rfl) HB.out
      | false =>
        have HR0 : Hid (recF s = 0 ∧ recL s = l) := by
          have h1 : recF s = 0 := by rw [HRF.out, if_neg h60, if_neg (by rw [← HBB.out]; decide)]
          exact ⟨h1, by rw [HRL.out, h1]; rfl⟩
        clear HRF HRL h60
        go_wp2
        go_ret2
        exact ⟨⟨la, lc, by rw [HR0.out.1, HR0.out.2]; rfl, by rw [HR0.out.2]; exact HOW.out⟩, HB.out⟩
    · have hR0 : 0 < R.length := List.length_pos_iff.2 hne
      have g1 : decide (0 < (tx R).size) = true := by rw [tx_size, decide_eq_true_eq]; exact hR0
      have hup := fun w' => UpTo_any (tx R) 10 w' (by rw [tx_size]; omega)
      simp only [tx_list] at hup
      obtain ⟨k1, k2, k3, k4⟩ := lines_step hne (HR10.out.resolve_left hne)
      have HLN1 : Hid (linesN R = linesR R) := by show _ = _; unfold linesN; rw [if_neg hne]
      obtain ⟨L, hL⟩ : ∃ L, (cutAt 10 R).1 = L := ⟨_, rfl⟩
      obtain ⟨M, hM⟩ : ∃ M, (cutAt 10 R).2.1 = M := ⟨_, rfl⟩
      rw [hL, hM] at hup k1
      rw [hM] at k2 k3
      rw [hL] at k4
      generalize (cutAt 10 R).2.2 = cb at hup
      have HUP := hide (hup wr)
      have HM10 := hide k2
      have HMR : Hid ((tx M).size < (tx R).size) := by show _ < _; rw [tx_size, tx_size]; exact k3
      have HL2 : Hid (l ++ [L] ++ linesN M = linesR s) := by show _ = _; rw [List.append_assoc, List.singleton_append, ← k1, ← HLN1.out]; exact HLL.out
      have HMM : Hid (M.length < R.length) := k3
      have HLS : Hid (∀ y : ByteArray, (l.map tx ++ [y]).length = l.length + 1) := fun y => by simp
      obtain ⟨la, lc, hlv⟩ := id HOW.out.1
      rw [List.length_map] at hlv
      have HFL : Hid ((l.map tx).length + 1 ≤ 1000000000) := by show _ ≤ _; rw [List.length_map]; omega
      clear hup hL hM k1 k2 k3 k4 HLN1 HLL HR10 hne hR0
      go_wp2_with fail
      refine HUP.out.mono ?_
      rintro e w1 ⟨rfl, b1⟩
      have HOW1 := hide (HOW.out.later b1)
      have HB1 := hide (HB.out.trans (b1.mono HB.out.size))
      have HSZ := hide HB1.out.size
      clear b1 HUP HOW HB
      subst hlv
      have hxs : (tx L).size = L.length := tx_size L
      have HBN : Hid ((b || decide (120 < L.length)) = (l ++ [L]).any fun x => decide (120 < x.length)) := by show _ = _; rw [List.any_append, HBB.out]; simp
      have HLL2 : Hid ((l ++ [L]).length + M.length ≤ s.length) := by have := HMM.out; show _ ≤ _; rw [List.length_append, List.length_singleton]; omega
      clear HBB
      cases b with
      | true =>
        clear hxs
        go_wp2_with (at_builtin; refine wpList_append_one (enc := encS) encS_len _ _ 42 i0 _ rfl rfl Tryz.underlying42 hi0 hz0 hz1 hz2 rfl (by decide) (by decide) (HOW1.out.alloc _) (HB1.out.alloc HSZ.out _) (by have := HSZ.out; simp; omega) HFL.out rfl (tx L) ⟨w1.heap.size, 0, none⟩ 1 rfl (news_cells w1 _ rfl) (one_str1 _) ?_; intro v' w2 ho hb1 hgr hat; have HOW2 : Hid (Own 1 encS 9 w2 wz.heap.size v' ((l ++ [L]).map tx)) := (by rw [List.map_append]; exact ho); have HB2 := hide hb1; clear ho hb1 hgr hat HOW1)
        go_roundw
        case rel => exact ⟨M, l ++ [L], true, hide rfl, hide rfl, HLL2.out, HM10, HOW2, HL2, HBN, HB2⟩
        case measure => exact HMR.out
      | false =>
        by_cases h12 : 120 < L.length
        · have g3 : decide ((120 : Int) < ((tx L).size : Int)) = true := by rw [hxs]; simp; omega
          have g4 : decide ((120 : Int) < (L.length : Int)) = true := by simp; omega
          rw [decide_eq_true h12] at HBN
          clear h12 hxs
          go_wp2_with (at_builtin; refine wpList_append_one (enc := encS) encS_len _ _ 42 i0 _ rfl rfl Tryz.underlying42 hi0 hz0 hz1 hz2 rfl (by decide) (by decide) (HOW1.out.alloc _) (HB1.out.alloc HSZ.out _) (by have := HSZ.out; simp; omega) HFL.out rfl (tx L) ⟨w1.heap.size, 0, none⟩ 1 rfl (news_cells w1 _ rfl) (one_str1 _) ?_; intro v' w2 ho hb1 hgr hat; have HOW2 : Hid (Own 1 encS 9 w2 wz.heap.size v' ((l ++ [L]).map tx)) := (by rw [List.map_append]; exact ho); have HB2 := hide hb1; clear ho hb1 hgr hat HOW1)
          go_roundw
          case rel => exact ⟨M, l ++ [L], true, hide rfl, hide rfl, HLL2.out, HM10, HOW2, HL2, HBN, HB2⟩
          case measure => exact HMR.out
        · have g3 : decide ((120 : Int) < ((tx L).size : Int)) = false := by rw [hxs]; simp; omega
          have g4 : decide ((120 : Int) < (L.length : Int)) = false := by simp; omega
          rw [decide_eq_false h12] at HBN
          clear h12 hxs
          go_wp2_with (at_builtin; refine wpList_append_one (enc := encS) encS_len _ _ 42 i0 _ rfl rfl Tryz.underlying42 hi0 hz0 hz1 hz2 rfl (by decide) (by decide) (HOW1.out.alloc _) (HB1.out.alloc HSZ.out _) (by have := HSZ.out; simp; omega) HFL.out rfl (tx L) ⟨w1.heap.size, 0, none⟩ 1 rfl (news_cells w1 _ rfl) (one_str1 _) ?_; intro v' w2 ho hb1 hgr hat; have HOW2 : Hid (Own 1 encS 9 w2 wz.heap.size v' ((l ++ [L]).map tx)) := (by rw [List.map_append]; exact ho); have HB2 := hide hb1; clear ho hb1 hgr hat HOW1)
          go_roundw
          case rel => exact ⟨M, l ++ [L], false, hide rfl, hide rfl, HLL2.out, HM10, HOW2, HL2, HBN, HB2⟩
          case measure => exact HMR.out
end Go.Proofs.YtgeedjlbajmdkaaGreatDoor
