/- TopRise: the law's walk. -/
import Derived.Test.YtkodbldfoldbjaaDoorFolder4
import Derived.Test.YtkodbldfoldbjaaDoorRowsLaw
import Derived.Test.YtkodbldfoldbjaaDoorRiseLaw
import Derived.Lib.QuietBelow
set_option linter.unusedSimpArgs false
set_option linter.unusedVariables false
namespace Go.Proofs.YtkodbldfoldbjaaDoor
open Go.RowKit

theorem text_a1 : tx (textP [(⟨#[97]⟩, 1)]) = ⟨#[49, 58, 97, 32, 49, 10]⟩ := by
  unfold textP lineP
  rw [List.flatMap_cons, List.flatMap_nil, List.append_nil]
  rw [show ((⟨#[97]⟩ : ByteArray), (1 : Int)).1.size = 1 from rfl]
  rw [Lib.itoa_nonneg 1, Lib.decDigits_one (by decide), show ((⟨#[97]⟩ : ByteArray), (1 : Int)).2 = ((1 : Nat) : Int) from rfl, Lib.itoa_nonneg 1, Lib.decDigits_one (by decide)]
  rfl
def hasKey (l : List Pr) (x : ByteArray) : Bool := l.any fun q => decide (q.1 = x)
theorem hasKey_succ {l : List Pr} {n : Nat} {q : Pr} (x : ByteArray) (h : l[n]? = some q) : hasKey (l.take (n + 1)) x = (hasKey (l.take n) x || decide (q.1 = x)) := by
  obtain ⟨hlt, hx⟩ := List.getElem?_eq_some_iff.1 h
  unfold hasKey
  rw [List.take_succ_eq_append_getElem hlt, hx, List.any_append]
  simp
theorem hasKey_all {kind : Int} {rs : List RowP} {r : RowP} {p : Pr} (hr : r ∈ rs) (hp : p ∈ r.2.2) : hasKey (groups kind (srt (rowsL rs).flatten)) p.1 = true := by
  have h1 : p ∈ srt (rowsL rs).flatten := mem_srt.2 (List.mem_flatten.2 ⟨r.2.2, List.mem_map.2 ⟨r, hr, rfl⟩, hp⟩)
  obtain ⟨q, hq, e⟩ := groups_has kind _ p h1
  exact List.any_eq_true.2 ⟨q, hq, by simpa using e⟩
theorem incr_at {l : List Pr} (h : l.Pairwise fun a b => klt a b = true) {k : Nat} {a b : Pr} (ha : l[k]? = some a) (hb : l[k + 1]? = some b) : Op.bytesLess b.1.toList a.1.toList = false ∧ ¬ b.1 = a.1 := by
  obtain ⟨h1, e1⟩ := List.getElem?_eq_some_iff.1 ha
  obtain ⟨h2, e2⟩ := List.getElem?_eq_some_iff.1 hb
  have h3 := (List.pairwise_iff_getElem.1 h) k (k + 1) h1 h2 (by omega)
  rw [e1, e2] at h3
  unfold klt at h3
  refine ⟨bl_asymm h3, fun e => ?_⟩
  rw [e, bl_irrefl] at h3
  cases h3
theorem rise_of_adj {l : List Pr} (h : ∀ (i : Nat) x y, i + 1 < l.length → l[i]? = some x → l[i + 1]? = some y → klt y x = false) : Rise l := by
  refine List.pairwise_iff_getElem.2 fun i j hi hj hij => ?_
  have key : ∀ d, ∀ (hj : i + 1 + d < l.length), klt l[i + 1 + d] l[i] = false := by
    intro d
    induction d with
    | zero => intro hj; exact h i _ _ hj (List.getElem?_eq_getElem hi) (List.getElem?_eq_getElem hj)
    | succ d ih =>
      intro hj
      exact kle_trans (ih (by omega)) (h (i + 1 + d) _ _ hj (List.getElem?_eq_getElem (by omega)) (List.getElem?_eq_getElem hj))
  have := key (j - (i + 1)) (by omega)
  simpa [show i + 1 + (j - (i + 1)) = j by omega] using this
set_option maxRecDepth 100000 in
set_option maxHeartbeats 8000000 in
theorem TopRise_walk (kind : Int) (ao : Option Addr) (ca : Nat) (rs : List RowP) (w : World) (hg : GW w) (hm : rs.length ≤ maxLen) (ht : Sl 1 encRow w ao rs) (hrow : ∀ r ∈ rs, RowOk w r ∧ ∀ p ∈ r.2.2, p.1.size ≤ maxLen ∧ -9223372036854775808 ≤ p.2 ∧ p.2 ≤ 9223372036854775807) :
    Calls Tryd.prog 9 #[.int .i64 kind, .slice ao rs.length ca] w fun e w' => e = .returned (.bool true) ∧ Below w.heap.size w w' := by
  have hb0 : Below w.heap.size w ((w.alloc (.cells #[.string ⟨#[97]⟩, .int .i64 1] 47)).alloc (.cells #[.slice (some ⟨w.heap.size, 0, none⟩) 1 1] 43)) :=
    ((Below.refl _ _).alloc (Nat.le_refl _) _).alloc (by simp) _
  have hrows : Sl 1 encRow ((w.alloc (.cells #[.string ⟨#[97]⟩, .int .i64 1] 47)).alloc (.cells #[.slice (some ⟨w.heap.size, 0, none⟩) 1 1] 43)) (some ⟨w.heap.size + 1, 0, none⟩) [(some ⟨w.heap.size, 0, none⟩, 1, [(⟨#[97]⟩, 1)])] :=
    Sl.lit encRow_len (heap_at (by simp)) rfl
  have hr1 : Sl 2 encP ((w.alloc (.cells #[.string ⟨#[97]⟩, .int .i64 1] 47)).alloc (.cells #[.slice (some ⟨w.heap.size, 0, none⟩) 1 1] 43)) (some ⟨w.heap.size, 0, none⟩) [(⟨#[97]⟩, 1)] :=
    Sl.lit encP_len (heap_old _ (heap_new w _)) rfl
  have hS : srt (rowsL [(some ⟨w.heap.size, 0, none⟩, 1, [((⟨#[97]⟩ : ByteArray), (1 : Int))])]).flatten = [(⟨#[97]⟩, 1)] := by
    show srt [((⟨#[97]⟩ : ByteArray), (1 : Int))] = _
    decide +kernel
  have HGR : Hid (groups 2 [((⟨#[97]⟩ : ByteArray), (1 : Int))] = [(⟨#[97]⟩, 1)]) := by show _ = _; decide +kernel
  have HN1 := hide (New_run 2 (some ⟨w.heap.size + 1, 0, none⟩) 1 _ _ (by decide) (by simp) (by simp [rowsL]) (by
    intro l hl
    simp [rowsL] at hl
    subst hl
    exact List.pairwise_singleton _ _) hrows (by
    intro r hr
    simp at hr
    subst hr
    exact hr1))
  rw [hS] at HN1
  have HG := hide hg
  have HT := hide ht
  have HROW := hide hrow
  have HB := hide hb0
  unfold maxLen at hm
  clear hg ht hrow hb0 hrows hr1 hS
  go_enter Tryd.func9, Tryd.ntmps9
  go_wp2_with fail
  refine HN1.out.mono ?_
  rintro e w1 ⟨⟨g, rfl, hv⟩, b1⟩
  clear HN1
  generalize (w.alloc (.cells #[.string ⟨#[97]⟩, .int .i64 1] 47)).alloc (.cells #[.slice (some ⟨w.heap.size, 0, none⟩) 1 1] 43) = W at *
  have HWW := hide b1.size
  have HB0 := HB
  replace HB := hide (HB.out.trans (b1.mono HB.out.size))
  have HSP := hide (Step_run 1 w1 HWW.out hv (by decide) (by decide))
  have hmin : decide (min (0 + (1 : Int).toNat) (groups 2 [((⟨#[97]⟩ : ByteArray), (1 : Int))]).length = (groups 2 [((⟨#[97]⟩ : ByteArray), (1 : Int))]).length) = true := by rw [HGR.out]; decide
  rw [hmin] at HSP
  clear hmin b1 hv
  go_wp2_with fail
  refine HSP.out.mono ?_
  rintro e w2 ⟨⟨rfl, hv2⟩, k2⟩
  have hb2 : Below w.heap.size w1 w2 := k2.below (fun q hq => Nat.le_trans HB0.out.size hq.1) HB.out.size
  replace HB := hide (HB.out.trans hb2)
  have HO := hide (Out_run w2 (HG.out.later HB.out (Nat.le_refl _)) hv2 ⟨by decide, by
    intro p hp
    simp at hp
    subst hp
    exact ⟨by decide, by decide, by decide⟩⟩)
  have htk : tx (textP ((groups 2 [((⟨#[97]⟩ : ByteArray), (1 : Int))]).take (min (0 + (1 : Int).toNat) (groups 2 [((⟨#[97]⟩ : ByteArray), (1 : Int))]).length))) = ⟨#[49, 58, 97, 32, 49, 10]⟩ := by
    rw [HGR.out]
    exact text_a1
  rw [htk] at HO
  clear htk hb2 hv2 k2 HSP HB0 HWW HGR
  go_wp2_with fail
  refine HO.out.mono ?_
  rintro e w3 ⟨rfl, b3⟩
  replace HB := hide (HB.out.trans (b3.mono HB.out.size))
  clear b3 HO
  by_cases h6 : 6 < rs.length
  · have e1 : decide ((6 : Int) < (rs.length : Int)) = true := by simp; omega
    go_wp2
    go_ret
    exact ⟨rfl, HB.out⟩
  have e1 : decide ((6 : Int) < (rs.length : Int)) = false := by simp; omega
  have HKC := hide (foldCheck_any kind w3)
  by_cases hkf : kindFault kind = 0
  case neg =>
    rw [errV_pos hkf] at HKC
    generalize kindFault kind = kf at *
    clear hkf
    go_wp2_with fail
    refine HKC.out.mono ?_
    rintro e w3' ⟨rfl, rfl⟩
    go_wp2
    go_ret
    exact ⟨rfl, HB.out⟩
  rw [hkf, errV_zero] at HKC
  go_wp2_with fail
  refine HKC.out.mono ?_
  rintro e w3' ⟨rfl, rfl⟩
  clear HKC
  go_wp2_with fail
  go_loopw [7] (fun i wr => ∃ k : Nat, k ≤ rs.length ∧ i = .int .i64 k ∧ Hid (∀ (i : Nat) r, i < k → rs[i]? = some r → (r.2.2.length ≤ 40 ∧ ∀ p ∈ r.2.2, p.1.size ≤ 60) ∧ Rise r.2.2) ∧ Hid (Below w.heap.size w wr)) (fun i _ => rs.length - (intOf i).toNat)
  case atStart => exact ⟨0, by omega, by go_num, fun i r h => by omega, HB⟩
  case round =>
    obtain ⟨k, hk, rfl, HK, HBL⟩ := hrel
    by_cases hlt : k < rs.length
    · obtain ⟨b, off, ra, rc, rl, rfl, hbw, hlk, c0⟩ := (HT.out.later HBL.out (Nat.le_refl _)).row hlt
      have hok := (HROW.out _ (List.mem_of_getElem? hlk)).1.later HBL.out (Nat.le_refl _)
      have HV := hide (HROW.out _ (List.mem_of_getElem? hlk)).2
      have HL := hide hlk
      have hrl := hok.len
      have HRS := hide hok.sl
      dsimp only at hrl HRS HV
      have HLP := hide (LightPairs_any ra rc rl 40 wr hrl HRS.out)
      unfold maxLen at hrl
      obtain ⟨lp, hlp⟩ : ∃ lp, lightPairs rl 40 = lp := ⟨_, rfl⟩
      rw [hlp] at HLP
      have HLP2 := hide hlp
      have f1 : (0 : Int) ≤ (k : Int) ∧ (k : Int) < (rs.length : Int) := by omega
      obtain ⟨f1, f2⟩ := f1
      clear hlk hok hlp
      go_wp2_with fail
      refine HLP.out.mono ?_
      rintro e w6 ⟨rfl, rfl⟩
      clear HLP
      cases lp
      · go_wp2
        go_ret
        exact ⟨rfl, HBL.out⟩
      go_wp2_with fail
      obtain ⟨wo, rfl⟩ : ∃ wo, wo = wr := ⟨_, rfl⟩
      go_loopw [8] (fun i wi => ∃ m : Nat, m ≤ rl.length ∧ i = .int .i64 m ∧ Hid (∀ (i : Nat) x y, i + 1 < m → rl[i]? = some x → rl[i + 1]? = some y → klt y x = false) ∧ Below wo.heap.size wo wi) (fun i _ => rl.length - (intOf i).toNat)
      case atStart => exact ⟨0, by omega, by go_num, (fun i x y h => by omega), Below.refl _ _⟩
      case round =>
        obtain ⟨m, hm2, rfl, HI, hbi⟩ := hrel
        have c0' := cell_later hbi c0
        have HBI := hide (HBL.out.trans (hbi.mono HBL.out.size))
        have HBI7 := hide hbi
        by_cases hlt2 : m < rl.length
        · obtain ⟨pb, poff, x, y, rfl, hpw, hpk, d0, d1⟩ := (HRS.out.later hbi (Nat.le_refl _)).pair hlt2
          have hy := HV.out _ (List.mem_of_getElem? hpk)
          dsimp only at hy
          have HPC := hide fun w' => PairCheck_any x y w' (by unfold maxLen; exact hy.1) hy.2
          have HPK := hide hpk
          have g1 : (0 : Int) ≤ (m : Int) ∧ (m : Int) < (rl.length : Int) := by omega
          obtain ⟨g1, g2⟩ := g1
          have k0 := cell_regrown d0
          have k1 := cell_regrown d1
          have k2 := cell_regrown c0'
          have e7 : decide (m < rl.length) = true := by simpa using hlt2
          generalize faultP x y = fp at *
          clear hpk hy c0
          by_cases hfp : fp = 0
          · subst hfp
            simp only [errV_zero] at HPC
            by_cases hm0 : m = 0
            · have e8 : decide (0 < m) = false := by simp; omega
              have e8' : decide ((0 : Int) < (m : Int)) = false := by simp; omega
              have HM0 := hide hm0
              clear hm0 hbi
              go_upto_region 14 with (fail)
              refine wp_region_quiet_below (by kernel_rfl) (by kernel_rfl) ?_
              repeat (go_big_quiet_step (first | (go_at_call 28; exact Calls.regrown_of (HPC.out _))))
              refine wpQuiet_nil ?_
              intro _ hw'
              obtain ⟨⟨dq, osq⟩, hw''⟩ := hw'
              subst hw''
              have HBI8 := hide (HBI7.out.trans ((below_regrown wr dq osq).mono HBI7.out.size))
              have HBR := hide (HBI.out.trans ((below_regrown wr dq osq).mono HBI.out.size))
              clear HPC k0 k1 k2
              go_wp2
              go_roundw
              case rel => exact ⟨m + 1, by omega, by go_num, (fun i x y h => by have := HM0.out; omega), HBI8.out⟩
              case measure => (simp [intOf]; try omega)
            · obtain ⟨j, rfl⟩ : ∃ j, m = j + 1 := ⟨m - 1, by omega⟩
              have e8 : decide (0 < j + 1) = true := by simp
              have e8' : decide ((0 : Int) < (j : Int) + 1) = true := by simp; try omega
              obtain ⟨_, _, x2, y2, e9, _, hpk2, d2, d3⟩ := (HRS.out.later hbi (Nat.le_refl _)).pair (k := j) (by omega)
              cases e9
              have k3 := cell_regrown d2
              have k4 := cell_regrown d3
              have HPK2 := hide hpk2
              have g3 : (0 : Int) ≤ (j : Int) ∧ (j : Int) < (rl.length : Int) := by omega
              obtain ⟨g3, g4⟩ := g3
              have f5 : IntKind.i64.wrap ((j : Int) + 1 - 1) = (j : Int) := by rw [show ((j : Int) + 1 - 1) = (j : Int) from by omega]; exact IntWalk.i64_in _ (by omega)
              have f6 : ((j : Int) + 1).toNat = j + 1 := by omega
              obtain ⟨lt, hlt3⟩ : ∃ lt, Op.bytesLess x.toList x2.toList = lt := ⟨_, rfl⟩
              have HLT := hide hlt3
              clear hpk2 hbi hm0
              cases lt
              · skip
                go_upto_region 14 with (fail)
                refine wp_region_quiet_below (by kernel_rfl) (by kernel_rfl) ?_
                repeat (go_big_quiet_step (first | (go_at_call 28; exact Calls.regrown_of (HPC.out _))))
                refine wpQuiet_nil ?_
                intro _ hw'
                obtain ⟨⟨dq, osq⟩, hw''⟩ := hw'
                subst hw''
                have HBI8 := hide (HBI7.out.trans ((below_regrown wr dq osq).mono HBI7.out.size))
                have HBR := hide (HBI.out.trans ((below_regrown wr dq osq).mono HBI.out.size))
                clear HPC k0 k1 k2
                clear k3 k4 f5 f6
                go_wp2
                go_roundw
                case rel => exact ⟨j + 2, by omega, by go_num, (fun i a b h ha hb => by
                  by_cases e : i = j
                  · subst e; rw [HPK2.out] at ha; rw [HPK.out] at hb; cases ha; cases hb; exact HLT.out
                  · exact HI.out i a b (by omega) ha hb), HBI8.out⟩
                case measure => (simp [intOf]; try omega)
              · skip
                go_upto_region 14 with (fail)
                refine wp_region_quiet_below (by kernel_rfl) (by kernel_rfl) ?_
                repeat (go_big_quiet_step (first | (go_at_call 28; exact Calls.regrown_of (HPC.out _))))
                refine wpQuiet_nil ?_
                intro _ hw'
                obtain ⟨⟨dq, osq⟩, hw''⟩ := hw'
                subst hw''
                have HBI8 := hide (HBI7.out.trans ((below_regrown wr dq osq).mono HBI7.out.size))
                have HBR := hide (HBI.out.trans ((below_regrown wr dq osq).mono HBI.out.size))
                clear HPC k0 k1 k2
                clear k3 k4 f5 f6
                go_wp2
                go_ret
                exact ⟨rfl, HBR.out⟩
          · simp only [errV_pos hfp] at HPC
            clear hbi
            go_upto_region 14 with (fail)
            refine wp_region_quiet_below (by kernel_rfl) (by kernel_rfl) ?_
            repeat (go_big_quiet_step (first | (go_at_call 28; exact Calls.regrown_of (HPC.out _))))
            refine wpQuiet_nil ?_
            intro _ hw'
            obtain ⟨⟨dq, osq⟩, hw''⟩ := hw'
            subst hw''
            have HBI8 := hide (HBI7.out.trans ((below_regrown wr dq osq).mono HBI7.out.size))
            have HBR := hide (HBI.out.trans ((below_regrown wr dq osq).mono HBI.out.size))
            clear HPC k0 k1 k2
            go_wp2
            go_ret
            exact ⟨rfl, HBR.out⟩
        · have e3 : decide (m < rl.length) = false := by simpa using hlt2
          obtain rfl : m = rl.length := by omega
          have HRI : Hid (Rise rl) := rise_of_adj HI.out
          clear hbi HI
          go_wp2
          go_roundw
          case rel => exact ⟨k + 1, by omega, by go_num, fun i r hi hr => by
            by_cases e : i = k
            · subst e; rw [HL.out] at hr; cases hr; exact ⟨lightPairs_row HLP2.out, HRI.out⟩
            · exact HK.out i r (by omega) hr, HBI⟩
          case measure => (simp [intOf]; try omega)
    · obtain rfl : k = rs.length := by omega
      have HOK : Hid (RowsOk rs) := RowsOk.of (by omega) HK.out fun r hr p hp => ((HROW.out r hr).2 p hp).2
      clear HK hk
      have f9 : decide ((rs.length : Int) < (rs.length : Int)) = false := by simp
      have HN := hide (New_run kind ao ca rs wr hkf (by omega) (by have := HOK.out.tot; omega) HOK.out.rise (HT.out.later HBL.out (Nat.le_refl _)) (fun r hr => ((HROW.out r hr).1.later HBL.out (Nat.le_refl _)).sl))
      have HSR := hide HOK.out.srt
      have HKA : Hid (∀ r ∈ rs, ∀ p ∈ r.2.2, hasKey (groups kind (srt (rowsL rs).flatten)) p.1 = true) := fun r hr p hp => hasKey_all hr hp
      have HINC : Hid ((groups kind (srt (rowsL rs).flatten)).Pairwise fun a b => klt a b = true) := groups_incr kind _ (srt_rise _)
      generalize srt (rowsL rs).flatten = L at *
      have hL240 := HSR.out.2.1
      have hGl := groups_length kind L
      have HOG := hide (HSR.out.1.groups kind)
      have HGT := hide (groups_small kind HSR.out.2.1 HSR.out.2.2 (groups kind L).length)
      rw [List.take_length] at HGT
      clear hkf HOK
      go_wp2_with fail
      refine HN.out.mono ?_
      rintro e w4 ⟨⟨g, rfl, hv⟩, b4⟩
      have HLO := hide HBL.out.size
      have HSZ := hide b4.size
      replace HBL := hide (HBL.out.trans (b4.mono HBL.out.size))
      have hmin : min (0 + (1048576 : Int).toNat) (groups kind L).length = (groups kind L).length := by simp; omega
      have HST := hide (Step_run 1048576 w4 HSZ.out hv (by omega) (by decide))
      rw [hmin] at HST
      clear hv b4 hmin HN
      go_wp2_with fail
      refine HST.out.mono ?_
      rintro e w5 ⟨⟨rfl, hv5⟩, k5⟩
      have hb5 : Below w.heap.size w4 w5 := k5.below (fun q hq => Nat.le_trans HLO.out hq.1) HBL.out.size
      replace HBL := hide (HBL.out.trans hb5)
      have HO := hide (Out_run w5 (HG.out.later HBL.out (Nat.le_refl _)) hv5 HSR.out.1)
      rw [List.take_length] at HO
      clear hv5 k5 hb5 HST HSZ HLO
      generalize groups kind L = G at *
      go_wp2_with fail
      refine HO.out.mono ?_
      rintro e w6 ⟨rfl, b6⟩
      replace HBL := hide (HBL.out.trans (b6.mono HBL.out.size))
      have HP := hide (Parse_text G w6 (HG.out.later HBL.out (Nat.le_refl _)) HOG.out (by have := HGT.out; omega))
      clear b6 HO
      go_wp2_with fail
      refine HP.out.mono ?_
      rintro e w7 ⟨⟨pa, pc, rfl, po⟩, b7⟩
      replace HBL := hide (HBL.out.trans (b7.mono HBL.out.size))
      have HGS := hide (po.sl encP_len)
      have hG240 : G.length ≤ 240 := by omega
      clear HP po b7 hGl
      go_wp2_with fail
      go_loopw [11] (fun i wq => ∃ k : Nat, (k ≤ G.length ∨ k = 0) ∧ i = .int .i64 ((k : Int) + 1) ∧ Below w7.heap.size w7 wq) (fun i _ => G.length + 2 - (intOf i).toNat)
      case atStart => exact ⟨0, by omega, by go_num, Below.refl _ _⟩
      case round =>
        obtain ⟨k, hk, rfl, hnx⟩ := hrel
        by_cases hlt : k + 1 < G.length
        · obtain ⟨bb, off, x, y, rfl, hbw, hlk, c0, c1⟩ := (HGS.out.later hnx (Nat.le_refl _)).pair (show k < G.length by omega)
          obtain ⟨_, _, x2, y2, e1, _, hlk2, c2, c3⟩ := (HGS.out.later hnx (Nat.le_refl _)).pair hlt
          cases e1
          obtain ⟨hb1, hb2⟩ := incr_at HINC.out hlk hlk2
          dsimp only at hb1 hb2
          have hb3 := bneq hb2
          have f1 : (0 : Int) ≤ (k : Int) + 1 ∧ (k : Int) + 1 < (G.length : Int) ∧ (0 : Int) ≤ (k : Int) ∧ (k : Int) < (G.length : Int) := by omega
          obtain ⟨f1, f2, f3, f4⟩ := f1
          have f5 : IntKind.i64.wrap ((k : Int) + 1 - 1) = (k : Int) := by rw [show ((k : Int) + 1 - 1) = (k : Int) from by omega]; exact IntWalk.i64_in _ (by omega)
          have f6 : ((k : Int) + 1).toNat = k + 1 := by omega
          have HNX := hide hnx
          clear hlk hlk2 hnx hb2
          go_wp2
          go_quiet (fail)
          clear f5 f6
          go_wp2
          go_roundw
          case rel => exact ⟨k + 1, by omega, by go_num, below_drewN HNX.out _⟩
          case measure => (simp [intOf]; try omega)
        · have hkw : decide ((k : Int) + 1 < (G.length : Int)) = false := by simp; omega
          have HBK := hide (HBL.out.trans (hnx.mono HBL.out.size))
          have HGK := hide (HGS.out.later hnx (Nat.le_refl _))
          clear hnx HGS HBL
          obtain ⟨W8, rfl⟩ : ∃ w8, w8 = wr := ⟨_, rfl⟩
          go_wp2_with fail
          clear hk hlt hkw
          go_loopw [12] (fun i wq => ∃ k : Nat, k ≤ rs.length ∧ i = .int .i64 k ∧ Below W8.heap.size W8 wq) (fun i _ => rs.length - (intOf i).toNat)
          case atStart => exact ⟨0, by omega, by go_num, Below.refl _ _⟩
          case round =>
            obtain ⟨k2, hk2, rfl, hn2⟩ := hrel
            by_cases hlt2 : k2 < rs.length
            · have HB2 := hide (HBK.out.trans (hn2.mono HBK.out.size))
              obtain ⟨b, off, ra, rc, rl, rfl, hbw, hlk, c0⟩ := (HT.out.later HB2.out (Nat.le_refl _)).row hlt2
              have HMEM := hide (List.mem_of_getElem? hlk)
              have hrl : rl.length ≤ maxLen := (HROW.out _ HMEM.out).1.len
              unfold maxLen at hrl
              have HRS := hide ((HROW.out _ HMEM.out).1.later HB2.out (Nat.le_refl _)).sl
              dsimp only at HRS
              have f1 : (0 : Int) ≤ (k2 : Int) ∧ (k2 : Int) < (rs.length : Int) := by omega
              obtain ⟨f1, f2⟩ := f1
              have e1 : decide (k2 < rs.length) = true := by simpa using hlt2
              obtain ⟨W9, rfl⟩ : ∃ w9, w9 = wr := ⟨_, rfl⟩
              have HN9 := hide hn2
              clear hlk hn2 HB2
              go_wp2_with fail
              go_loopw [13] (fun i wq => ∃ m : Nat, m ≤ rl.length ∧ i = .int .i64 m ∧ Below W9.heap.size W9 wq) (fun i _ => rl.length - (intOf i).toNat)
              case atStart => exact ⟨0, by omega, by go_num, Below.refl _ _⟩
              case round =>
                obtain ⟨m, hm2, rfl, hbi⟩ := hrel
                have c0' := cell_later hbi c0
                by_cases hlt3 : m < rl.length
                · obtain ⟨pb, poff, x, y, rfl, hpw, hpk, d0, d1⟩ := (HRS.out.later hbi (Nat.le_refl _)).pair hlt3
                  have HK : Hid (hasKey G x = true) := HKA.out _ HMEM.out (x, y) (List.mem_of_getElem? hpk)
                  have g1 : (0 : Int) ≤ (m : Int) ∧ (m : Int) < (rl.length : Int) := by omega
                  obtain ⟨g1, g2⟩ := g1
                  have e2 : decide (m < rl.length) = true := by simpa using hlt3
                  obtain ⟨WA, rfl⟩ : ∃ wa, wa = wr := ⟨_, rfl⟩
                  have HNA := hide hbi
                  have HG9 := hide ((HGK.out.later HN9.out (Nat.le_refl _)).later hbi (Nat.le_refl _))
                  clear hpk hbi d1
                  go_wp2_with fail
                  go_loopw [14, 15] (fun fv i wq => ∃ n : Nat, n ≤ G.length ∧ i = .int .i64 n ∧ fv = .bool (hasKey (G.take n) x) ∧ Below WA.heap.size WA wq) (fun _ i _ => G.length - (intOf i).toNat)
                  case atStart => exact ⟨0, by omega, by go_num, by simp [hasKey], Below.refl _ _⟩
                  case round =>
                    obtain ⟨n, hn, rfl, rfl, hbj⟩ := hrel
                    by_cases hlt4 : n < G.length
                    · obtain ⟨gb, goff, x2, y2, rfl, hgw, hgk, q0, q1⟩ := (HG9.out.later hbj (Nat.le_refl _)).pair hlt4
                      have c0'' := cell_later hbj c0'
                      have d0'' := cell_later hbj d0
                      have HSC := hide (hasKey_succ x hgk)
                      have j1 : (0 : Int) ≤ (n : Int) ∧ (n : Int) < (G.length : Int) := by omega
                      obtain ⟨j1, j2⟩ := j1
                      have e3 : decide (n < G.length) = true := by simpa using hlt4
                      have HBJ := hide hbj
                      obtain ⟨fo, hfo⟩ : ∃ fo, hasKey (G.take n) x = fo := ⟨_, rfl⟩
                      rw [hfo] at HSC ⊢
                      clear hgk q1 hbj hfo
                      by_cases hxx : x2 = x
                      · subst hxx
                        have hee := beqq x2
                        simp only [decide_true, Bool.or_true] at HSC
                        cases fo <;>
                        · go_wp2
                          go_quiet (fail)
                          go_wp2
                          go_roundw
                          case rel => exact ⟨n + 1, by omega, by go_num, by rw [HSC.out], below_drewN HBJ.out _⟩
                          case measure => (simp [intOf]; try omega)
                      · have hee := bneq hxx
                        rw [decide_eq_false hxx, Bool.or_false] at HSC
                        cases fo <;>
                        · go_wp2
                          go_quiet (fail)
                          go_wp2
                          go_roundw
                          case rel => exact ⟨n + 1, by omega, by go_num, by rw [HSC.out], below_drewN HBJ.out _⟩
                          case measure => (simp [intOf]; try omega)
                    · obtain rfl : n = G.length := by omega
                      have e3 : decide (G.length < G.length) = false := by simp
                      have hkk := HK.out
                      rw [List.take_length, hkk]
                      have HBJ := hide (HNA.out.trans (hbj.mono HNA.out.size))
                      clear hbj hkk
                      go_wp2
                      go_roundw
                      case rel => exact ⟨m + 1, by omega, by go_num, HBJ.out⟩
                      case measure => (simp [intOf]; try omega)
                · have e2 : decide (m < rl.length) = false := by simpa using hlt3
                  have HBJ := hide (HN9.out.trans (hbi.mono HN9.out.size))
                  clear hbi
                  go_wp2
                  go_roundw
                  case rel => exact ⟨k2 + 1, by omega, by go_num, HBJ.out⟩
                  case measure => (simp [intOf]; try omega)
            · have e1 : decide (k2 < rs.length) = false := by simpa using hlt2
              have HB2 := hide (HBK.out.trans (hn2.mono HBK.out.size))
              clear hn2
              go_wp2
              go_ret
              exact ⟨rfl, HB2.out⟩
end Go.Proofs.YtkodbldfoldbjaaDoor
