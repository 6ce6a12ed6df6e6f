/- PairSays: the law's walk. -/
import Derived.Test.YtkodbldfoldbjaaDoorPair6
import Derived.Test.YtkodbldfoldbjaaDoorNums
import Derived.BigQuiet
set_option linter.unusedSimpArgs false
set_option linter.unusedVariables false
namespace Go.Proofs.YtkodbldfoldbjaaDoor
open Go.RowKit

def faultS (S : List UInt8) : Int := if (parseP S).isSome = true then 0 else 4
def listS (S : List UInt8) : List Pr := (parseP S).getD []
theorem faultS_nn (S : List UInt8) : 0 ≤ faultS S := by unfold faultS; split <;> decide
theorem Parse_all (s : ByteArray) (w : World) (hg : GW w) (hs : s.size ≤ 1000000) :
    Calls Tryd.prog 34 #[.string s] w fun e w' => (∃ ao cap, e = .returned (.tuple #[.slice ao (listS s.data.toList).length cap, errV (faultS s.data.toList)]) ∧ Own 2 encP 47 w' w.heap.size (.slice ao (listS s.data.toList).length cap) (listS s.data.toList)) ∧ Below w.heap.size w w' := by
  refine (Parse_any s w hg hs).mono ?_
  rintro e w' ⟨⟨v, rfl, ho⟩, hb⟩
  obtain ⟨⟨ao, cap, rfl⟩, _⟩ := id ho
  refine ⟨⟨ao, cap, ?_, ho⟩, hb⟩
  unfold faultS listS
  cases parseP s.data.toList <;> rfl
theorem same_refl (f : Int) (w : World) (hf : 0 ≤ f) : Calls Tryd.prog 15 #[errV f, .int .i64 f] w fun e w' => e = .returned (.bool true) ∧ w = w' := by
  have := same_any f f w hf
  simpa using this
theorem listS_of {S : List UInt8} {l : List Pr} (h : parseP S = some l) : listS S = l ∧ faultS S = 0 := by
  unfold listS faultS; rw [h]; exact ⟨rfl, rfl⟩
theorem txt_one : (⟨#[49, 58, 97, 32, 45, 53, 10]⟩ : ByteArray).data.toList = textP [(⟨#[97]⟩, -5)] := by
  unfold textP lineP
  rw [List.flatMap_cons, List.flatMap_nil, List.append_nil]
  rw [show ((⟨#[97]⟩ : ByteArray), (-5 : Int)).1.size = 1 from rfl]
  rw [Lib.itoa_nonneg 1, Lib.decDigits_one (by decide), show ((⟨#[97]⟩ : ByteArray), (-5 : Int)).2 = -((5 : Nat) : Int) from rfl, Lib.itoa_neg 5 (by decide), Lib.decDigits_one (by decide)]
  rfl
theorem one_list : listS (⟨#[49, 58, 97, 32, 45, 53, 10]⟩ : ByteArray).data.toList = [(⟨#[97]⟩, -5)] ∧ faultS (⟨#[49, 58, 97, 32, 45, 53, 10]⟩ : ByteArray).data.toList = 0 := by
  rw [txt_one]
  exact listS_of (parse_text _ (by intro p hp; obtain rfl : p = _ := List.mem_singleton.1 hp; exact ⟨by decide, by decide, by decide⟩))
set_option maxRecDepth 100000 in
set_option maxHeartbeats 1000000 in
theorem pairs_any (w : World) (hg : GW w) :
    Calls Tryd.prog 26 #[] w fun e w' => e = .returned (.bool true) ∧ Below w.heap.size w w' := by
  have HX := hide (Parse_all ⟨#[49, 58, 97, 32, 45, 53, 10]⟩ w hg (by decide))
  rw [one_list.1, one_list.2] at HX
  have HTX : Hid (tx (textP [(⟨#[97]⟩, -5)]) = ⟨#[49, 58, 97, 32, 45, 53, 10]⟩) := by
    show _ = _
    rw [← txt_one, tx_of]
  have HG := hide hg
  clear hg
  go_enter Tryd.func26, Tryd.ntmps26
  go_wp2_with fail
  refine HX.out.mono ?_
  rintro e w1 ⟨⟨ao, cap, rfl, ho⟩, b1⟩
  have HB := hide b1
  have HG1 := hide (HG.out.later b1 (Nat.le_refl _))
  have hsl := ho.sl encP_len
  obtain ⟨g, off, x, y, rfl, hgw, hlk, c0, c1⟩ := hsl.pair (k := 0) (by decide)
  obtain ⟨rfl, rfl⟩ : (⟨#[97]⟩ : ByteArray) = x ∧ (-5 : Int) = y := by simpa using hlk
  have HT := hide (Text_any (some ⟨g, off, none⟩) cap [(⟨#[97]⟩, -5)] w1 HG1.out ⟨by decide, by intro p hp; obtain rfl : p = _ := List.mem_singleton.1 hp; exact ⟨by decide, by decide, by decide⟩⟩ hsl)
  rw [HTX.out] at HT
  have hm := fun w => same_any 0 0 w (by decide)
  have HSM := hide hm
  simp only [Nat.zero_mul, Nat.add_zero] at c0 c1
  clear HX b1 ho hsl hlk HTX hm
  go_wp2_with fail
  refine (HSM.out _).mono ?_
  rintro e w1' ⟨rfl, rfl⟩
  go_wp2_with fail
  refine HT.out.mono ?_
  rintro e w2 ⟨rfl, b2⟩
  have HB2 := hide (HB.out.trans (b2.mono HB.out.size))
  clear b2 HT
  go_wp2
  go_ret
  exact ⟨rfl, HB2.out⟩
theorem PairsOf_all (s : ByteArray) (w : World) (hs : s.size ≤ 1000000) :
    Calls Tryd.prog 35 #[.string s] w fun e w' => (∃ ao cap, e = .returned (.tuple #[.slice ao (listS s.data.toList).length cap, .int .i64 (faultS s.data.toList)]) ∧ Own 2 encP 47 w' w.heap.size (.slice ao (listS s.data.toList).length cap) (listS s.data.toList)) ∧ Below w.heap.size w w' := by
  refine (PairsOf_any s w hs).mono ?_
  rintro e w' ⟨⟨v, rfl, ho⟩, hb⟩
  obtain ⟨⟨ao, cap, rfl⟩, _⟩ := id ho
  refine ⟨⟨ao, cap, ?_, ho⟩, hb⟩
  unfold faultS listS
  cases parseP s.data.toList <;> rfl
theorem listS_len (S : List UInt8) : (listS S).length ≤ S.length := by
  unfold listS
  cases h : parseP S with
  | none => exact Nat.zero_le _
  | some l => exact (parseP_le _ S l (Nat.le_refl _) h).1
set_option maxRecDepth 100000 in
set_option maxHeartbeats 4000000 in
theorem PairSays_walk (ao : Option Addr) (cap : Nat) (l : List Pr) (s : ByteArray) (many : Int) (w : World) (hg : GW w) (hl : l.length ≤ maxLen) (hv : ∀ p ∈ l, p.1.size ≤ maxLen ∧ -9223372036854775808 ≤ p.2 ∧ p.2 ≤ 9223372036854775807) (hs : Sl 2 encP w ao l) (hss : s.size ≤ maxLen) :
    Calls Tryd.prog 4 #[.slice ao l.length cap, .string s, .int .i64 many] w fun e w' => e = .returned (.bool true) ∧ Below w.heap.size w w' := by
  have HX := hide (pairs_any w hg)
  have HG := hide hg
  have HSL := hide hs
  have HV := hide hv
  have HLP := hide fun w' (hb : Below w.heap.size w w') => LightPairs_any ao cap l 60 w' hl (hs.later hb (Nat.le_refl _))
  obtain ⟨lp, hlp⟩ : ∃ lp, lightPairs l 60 = lp := ⟨_, rfl⟩
  rw [hlp] at HLP
  have HL := hide hlp
  unfold maxLen at hl hss
  clear hg hs hv hlp
  go_enter Tryd.func4, Tryd.ntmps4
  go_wp2_with fail
  refine HX.out.mono ?_
  rintro e w1 ⟨rfl, b1⟩
  have HB1 := hide b1
  have HP1 := hide (HLP.out w1 b1)
  clear b1 HX HLP
  go_wp2_with fail
  refine HP1.out.mono ?_
  rintro e w1' ⟨rfl, rfl⟩
  clear HP1
  cases lp
  · go_wp2
    go_ret
    exact ⟨rfl, HB1.out⟩
  by_cases hls : 2000 < s.size
  · have e1 : decide ((2000 : Int) < (s.size : Int)) = true := by simp; omega
    go_wp2
    go_ret
    exact ⟨rfl, HB1.out⟩
  have e1 : decide ((2000 : Int) < (s.size : Int)) = false := by simp; omega
  have hll : l.length ≤ 60 ∧ ∀ p ∈ l, p.1.size ≤ 60 := by
    have := HL.out
    simp only [lightPairs, Bool.and_eq_true, decide_eq_true_eq, List.all_eq_true, shortKey] at this
    exact ⟨by omega, this.2⟩
  have HLL := hide hll
  have hl60 := hll.1
  have HOK : Hid (okP l) := ⟨by omega, fun p hp => ⟨by have := HLL.out.2 p hp; omega, (HV.out p hp).2⟩⟩
  clear hll HL hl
  go_wp2_with fail
  have hw1 := HB1.out.size
  go_loopw [8] (fun i wr => ∃ k : Nat, k ≤ l.length ∧ i = .int .i64 k ∧ Below w.heap.size w wr) (fun i _ => l.length - (intOf i).toNat)
  case atStart => exact ⟨0, by omega, rfl, HB1.out⟩
  case round =>
    obtain ⟨k, hk, rfl, hnx⟩ := hrel
    have HNX := hide hnx
    have hws := hnx.size
    by_cases hlt : k < l.length
    · obtain ⟨b, off, x, y, rfl, hbw, hlk, c0, c1⟩ := (HSL.out.later hnx (Nat.le_refl _)).pair hlt
      have hx := HLL.out.2 _ (List.mem_of_getElem? hlk)
      have hy := (HV.out _ (List.mem_of_getElem? hlk)).2
      dsimp only at hx hy
      have f1 : (0 : Int) ≤ (k : Int) ∧ (k : Int) < (l.length : Int) := by omega
      obtain ⟨f1, f2⟩ := f1
      have k0 := cell_regrown c0
      have k1 := cell_regrown c1
      have HCK := hide fun w' => PairCheck_any x y w' (by unfold maxLen; omega) hy
      have HPF := hide fun w' => PairFault_any x y w' (by unfold maxLen; omega) hy
      have hf : 0 ≤ faultP x y := by unfold faultP; split <;> decide
      have HSM := hide fun w' => same_refl (faultP x y) w' hf
      have HSU := hide fun w' => Sum_any x w' (by unfold maxLen; omega)
      have HKS := hide fun w' => KeySum_any x w' (by unfold maxLen; omega)
      have hsb := sumB_bd x.data.toList
      generalize faultP x y = fp at *
      generalize hsx : sumB x.data.toList = sb at *
      have HSX := hide hsx
      have hw0 : IntKind.i64.wrap sb = sb := IntWalk.i64_in _ (by omega)
      obtain ⟨hs0, hs1⟩ := hsb
      clear hlk hf hsx hnx
      go_wp2_with fail
      go_upto_region 7 with (fail)
      refine wp_region_quiet_below (by kernel_rfl) (by kernel_rfl) ?_
      repeat (go_big_quiet_step (first
        | (go_at_call 28; exact Calls.regrown_of (HCK.out _))
        | (go_at_call 29; exact Calls.regrown_of (HPF.out _))
        | (go_at_call 15; exact Calls.regrown_of ((HSM.out _).mono fun _ _ ⟨a, b⟩ => ⟨a, b ▸ Below.refl _ _⟩))
        | (go_at_call 30; exact Calls.regrown_of ((HSU.out _).mono fun _ _ ⟨a, b⟩ => ⟨a, b ▸ Below.refl _ _⟩))
        | (go_at_call 31; exact Calls.regrown_of ((HKS.out _).mono fun _ _ ⟨a, b⟩ => ⟨a, b ▸ Below.refl _ _⟩))))
      refine wpQuiet_nil ?_
      intro _ hw'
      obtain ⟨⟨dq, osq⟩, hw''⟩ := hw'
      subst hw''
      have HB := hide (HNX.out.trans ((below_regrown wr dq osq).mono hws))
      have c0 := k0 dq osq
      have c1 := k1 dq osq
      clear k0 k1 HNX HCK HPF HSM HSU HKS HSX hw0 hs0 hs1
      generalize Go.Sort.grow (redrawn wr dq) osq = W2 at *
      have k0 := cell_regrown c0
      have k1 := cell_regrown c1
      by_cases hm1 : 1 ≤ many
      · have e2 : decide (1 ≤ many) = true := by simpa using hm1
        by_cases hm2 : many ≤ 1000
        · have e3 : decide (many ≤ 1000) = true := by simpa using hm2
          have HSL1 := hide fun w' => Slice_any x many w' (by unfold maxLen; omega) hm2
          have HSL2 := hide fun w' => SliceOf_any x many w' (by unfold maxLen; omega) ⟨hm1, hm2⟩
          generalize sliceB x many = sl at *
          go_upto_region 9 with (fail)
          refine wp_region_quiet_below (by kernel_rfl) (by kernel_rfl) ?_
          repeat (go_big_quiet_step (first
            | (go_at_call 32; exact Calls.regrown_of ((HSL1.out _).mono fun _ _ ⟨a, b⟩ => ⟨a, b ▸ Below.refl _ _⟩))
            | (go_at_call 33; exact Calls.regrown_of ((HSL2.out _).mono fun _ _ ⟨a, b⟩ => ⟨a, b ▸ Below.refl _ _⟩))))
          refine wpQuiet_nil ?_
          intro _ hw'
          obtain ⟨⟨dq2, osq2⟩, hw''⟩ := hw'
          subst hw''
          have HB2 := hide (HB.out.trans ((below_regrown W2 dq2 osq2).mono HB.out.size))
          go_wp2
          go_roundw
          case rel => exact ⟨k + 1, by omega, by go_num, HB2.out⟩
          case measure => (simp [intOf]; try omega)
        · have e3 : decide (many ≤ 1000) = false := by simpa using hm2
          have HSL1 : Hid True := trivial
          have HSL2 : Hid True := trivial
          go_upto_region 9 with (fail)
          refine wp_region_quiet_below (by kernel_rfl) (by kernel_rfl) ?_
          repeat (go_big_quiet_step (fail))
          refine wpQuiet_nil ?_
          intro _ hw'
          obtain ⟨⟨dq2, osq2⟩, hw''⟩ := hw'
          subst hw''
          have HB2 := hide (HB.out.trans ((below_regrown W2 dq2 osq2).mono HB.out.size))
          go_wp2
          go_roundw
          case rel => exact ⟨k + 1, by omega, by go_num, HB2.out⟩
          case measure => (simp [intOf]; try omega)
      · have e2 : decide (1 ≤ many) = false := by simpa using hm1
        go_upto_region 9 with (fail)
        refine wp_region_quiet_below (by kernel_rfl) (by kernel_rfl) ?_
        repeat (go_big_quiet_step (fail))
        refine wpQuiet_nil ?_
        intro _ hw'
        obtain ⟨⟨dq2, osq2⟩, hw''⟩ := hw'
        subst hw''
        have HB2 := hide (HB.out.trans ((below_regrown W2 dq2 osq2).mono HB.out.size))
        go_wp2
        go_roundw
        case rel => exact ⟨k + 1, by omega, by go_num, HB2.out⟩
        case measure => (simp [intOf]; try omega)
    · have HGW := hide (HG.out.later hnx (Nat.le_refl _))
      have HSLr := hide (HSL.out.later hnx (Nat.le_refl _))
      have HP1 := hide (Parse_all s wr HGW.out (by omega))
      have HLN := hide (listS_len s.data.toList)
      have hfn := faultS_nn s.data.toList
      have hsl := tl_len s
      generalize hLL : listS s.data.toList = L at *
      generalize hFF : faultS s.data.toList = fs at *
      have HLL2 := hide hLL
      have HFF := hide hFF
      clear hLL hFF
      have HP2 : Hid (∀ w' : World, Calls Tryd.prog 35 #[.string s] w' fun e w'' => (∃ ao cap, e = .returned (.tuple #[.slice ao L.length cap, .int .i64 fs]) ∧ Own 2 encP 47 w'' w'.heap.size (.slice ao L.length cap) L) ∧ Below w'.heap.size w' w'') := by
        intro w'
        have h := PairsOf_all s w' (by omega)
        rw [HLL2.out, HFF.out] at h
        exact h
      have HSM := hide fun w' => same_refl fs w' hfn
      have hLm : L.length ≤ maxLen := by unfold maxLen; have := HLN.out; omega
      clear hsl hnx
      go_wp2_with fail
      refine HP1.out.mono ?_
      rintro e w2 ⟨⟨a2, c2, rfl, ho2⟩, b2⟩
      have HB2 := hide (HNX.out.trans (b2.mono hws))
      have HO2 := hide ho2
      have HS2 := hide (HSLr.out.later b2 (Nat.le_refl _))
      have HG2 := hide (HGW.out.later b2 (Nat.le_refl _))
      clear HP1 ho2 b2 HSLr HGW
      go_wp2_with fail
      refine (HP2.out _).mono ?_
      rintro e w3 ⟨⟨a3, c3, rfl, ho3⟩, b3⟩
      have HB3 := hide (HB2.out.trans (b3.mono HB2.out.size))
      have HO3 := hide (HO2.out.later b3)
      have HS3 := hide (HS2.out.later b3 (Nat.le_refl _))
      have HG3 := hide (HG2.out.later b3 (Nat.le_refl _))
      have HSP := hide (SamePairs_refl a2 a3 c2 c3 L w3 hLm (HO3.out.sl encP_len) (ho3.sl encP_len))
      clear HP2 ho3 b3 HS2 HG2 HO2 HO3 hLm
      go_wp2_with fail
      refine (HSM.out _).mono ?_
      rintro e w3' ⟨rfl, rfl⟩
      go_wp2_with fail
      refine HSP.out.mono ?_
      rintro e w4 ⟨rfl, b4⟩
      have HB4 := hide (HB3.out.trans (b4.mono HB3.out.size))
      have HS4 := hide (HS3.out.later b4 (Nat.le_refl _))
      have HG4 := hide (HG3.out.later b4 (Nat.le_refl _))
      have HT := hide (Text_any ao cap l w4 HG4.out HOK.out HS4.out)
      clear HSM HSP b4 HS3 HG3
      go_wp2_with fail
      refine HT.out.mono ?_
      rintro e w5 ⟨rfl, b5⟩
      have HB5 := hide (HB4.out.trans (b5.mono HB4.out.size))
      have HT2 := hide (PairsText_any ao cap l w5 HOK.out (HS4.out.later b5 (Nat.le_refl _)))
      clear HT b5 HS4 HG4
      go_wp2_with fail
      refine HT2.out.mono ?_
      rintro e w6 ⟨rfl, b6⟩
      have HB6 := hide (HB5.out.trans (b6.mono HB5.out.size))
      have hbq := beqq (tx (textP l))
      clear HT2 b6
      go_wp2
      go_ret
      exact ⟨rfl, HB6.out⟩
end Go.Proofs.YtkodbldfoldbjaaDoor
