/- FolderSays: the law's walk. -/
import Derived.Test.YtkodbldfoldbjaaDoorFolderC
import Derived.Test.YtkodbldfoldbjaaDoorRefFold
import Derived.Lib.QuietBelow
set_option linter.unusedSimpArgs false
set_option linter.unusedVariables false
namespace Go.Proofs.YtkodbldfoldbjaaDoor
open Go.RowKit

theorem lightPairs_row {l : List Pr} (h : lightPairs l 40 = true) : l.length ≤ 40 ∧ ∀ p ∈ l, p.1.size ≤ 60 := by
  have := light_of h
  exact ⟨by omega, this.2⟩
/-- what the rows of a law come to -/
structure RowsOk (rs : List RowP) : Prop where
  rise : ∀ l ∈ rowsL rs, Rise l
  tot : (rowsL rs).flatten.length ≤ 240
  small : ∀ p ∈ (rowsL rs).flatten, p.1.size ≤ 60 ∧ -9223372036854775808 ≤ p.2 ∧ p.2 ≤ 9223372036854775807
theorem RowsOk.of {rs : List RowP} (h6 : rs.length ≤ 6) (h : ∀ (i : Nat) r, i < rs.length → rs[i]? = some r → (r.2.2.length ≤ 40 ∧ ∀ p ∈ r.2.2, p.1.size ≤ 60) ∧ Rise r.2.2) (hv : ∀ r ∈ rs, ∀ p ∈ r.2.2, -9223372036854775808 ≤ p.2 ∧ p.2 ≤ 9223372036854775807) : RowsOk rs := by
  have hall : ∀ r ∈ rs, (r.2.2.length ≤ 40 ∧ ∀ p ∈ r.2.2, p.1.size ≤ 60) ∧ Rise r.2.2 := by
    intro r hr
    obtain ⟨i, hi⟩ := List.getElem?_of_mem hr
    exact h i r (List.getElem?_eq_some_iff.1 hi).1 hi
  refine ⟨fun l hl => ?_, ?_, fun p hp => ?_⟩
  · obtain ⟨r, hr, rfl⟩ := List.mem_map.1 hl
    exact (hall r hr).2
  · have := flat_len_le (ls := rowsL rs) (n := 40) (k := 6) (fun l hl => by obtain ⟨r, hr, rfl⟩ := List.mem_map.1 hl; exact (hall r hr).1.1) (by simpa [rowsL] using h6)
    omega
  · obtain ⟨l, hl, hp⟩ := List.mem_flatten.1 hp
    obtain ⟨r, hr, rfl⟩ := List.mem_map.1 hl
    exact ⟨(hall r hr).1.2 p hp, hv r hr p hp⟩
theorem RowsOk.srt {rs : List RowP} (h : RowsOk rs) : okP (srt (rowsL rs).flatten) ∧ (Go.Proofs.YtkodbldfoldbjaaDoor.srt (rowsL rs).flatten).length ≤ 240 ∧ ∀ p ∈ Go.Proofs.YtkodbldfoldbjaaDoor.srt (rowsL rs).flatten, p.1.size ≤ 60 ∧ -9223372036854775808 ≤ p.2 ∧ p.2 ≤ 9223372036854775807 := by
  have h1 : ∀ p ∈ Go.Proofs.YtkodbldfoldbjaaDoor.srt (rowsL rs).flatten, p.1.size ≤ 60 ∧ -9223372036854775808 ≤ p.2 ∧ p.2 ≤ 9223372036854775807 := fun p hp => h.small p (mem_srt.1 hp)
  have h2 : (Go.Proofs.YtkodbldfoldbjaaDoor.srt (rowsL rs).flatten).length ≤ 240 := by rw [srt_len]; exact h.tot
  exact ⟨⟨by omega, fun p hp => ⟨by have := (h1 p hp).1; omega, (h1 p hp).2⟩⟩, h2, h1⟩
theorem groups_small (k : Int) {l : List Pr} (hl : l.length ≤ 240) (h : ∀ p ∈ l, p.1.size ≤ 60 ∧ -9223372036854775808 ≤ p.2 ∧ p.2 ≤ 9223372036854775807) (c : Nat) : (textP ((groups k l).take c)).length ≤ 24720 := by
  have h1 : ∀ p ∈ groups k l, p.1.size ≤ 60 ∧ -9223372036854775808 ≤ p.2 ∧ p.2 ≤ 9223372036854775807 :=
    groups_all k _ (fun q p hq hp _ => ⟨hq.1, two_bd k q.2 p.2 hq.2 hp.2⟩) l h
  have h2 := textP_small ((groups k l).take c) fun p hp => h1 p (List.mem_of_mem_take hp)
  have h3 := groups_length k l
  rw [List.length_take] at h2
  omega
theorem own_cap {α : Type} {sz : Nat} {enc : α → List Value} {e : TypeId} {w : World} {base : Nat} {ao : Option Addr} {cap : Nat} {l : List α} (h : Own sz enc e w base (.slice ao l.length cap) l) : l.length ≤ cap := by
  rcases h.shape with ⟨_, h2⟩ | ⟨g, c, h1, h2, _⟩
  · rw [h2]; exact Nat.zero_le _
  · cases h1; exact h2
set_option maxRecDepth 100000 in
set_option maxHeartbeats 8000000 in
theorem FolderSays_walk (kind : Int) (ao : Option Addr) (ca : Nat) (rs : List RowP) (bo : Option Addr) (cb : Nat) (st : List Int) (w : World) (hg : GW w) (hm : rs.length ≤ maxLen) (ht : Sl 1 encRow w ao rs) (hrow : ∀ r ∈ rs, RowOk w r ∧ ∀ p ∈ r.2.2, p.1.size ≤ maxLen ∧ -9223372036854775808 ≤ p.2 ∧ p.2 ≤ 9223372036854775807) (hst : st.length ≤ maxLen) (hss : Sl 1 encInt w bo st) (hsv : ∀ s ∈ st, -9223372036854775808 ≤ s ∧ s ≤ 9223372036854775807) :
    Calls Tryd.prog 5 #[.int .i64 kind, .slice ao rs.length ca, .slice bo st.length cb] w fun e w' => e = .returned (.bool true) ∧ Below w.heap.size w w' := by
  have HF := hide (foldings_any w hg)
  have HG := hide hg
  have HT := hide ht
  have HROW := hide hrow
  have HST := hide hss
  have HSV := hide hsv
  unfold maxLen at hm hst
  clear hg ht hrow hss hsv
  go_enter Tryd.func5, Tryd.ntmps5
  go_wp2_with fail
  refine HF.out.mono ?_
  rintro e w1 ⟨rfl, b1⟩
  have HB := hide b1
  clear b1 HF
  by_cases h6 : 6 < rs.length
  · have e1 : decide ((6 : Int) < (rs.length : Int)) = true := by simp; omega
    go_wp2
    go_ret
    exact ⟨rfl, HB.out⟩
  have e1 : decide ((6 : Int) < (rs.length : Int)) = false := by simp; omega
  by_cases h30 : 30 < st.length
  · have e2 : decide ((30 : Int) < (st.length : Int)) = true := by simp; omega
    go_wp2
    go_ret
    exact ⟨rfl, HB.out⟩
  have e2 : decide ((30 : Int) < (st.length : Int)) = false := by simp; omega
  go_wp2_with fail
  go_loopw [8] (fun i wr => ∃ k : Nat, k ≤ rs.length ∧ i = .int .i64 k ∧ Hid (∀ (i : Nat) r, i < k → rs[i]? = some r → (r.2.2.length ≤ 40 ∧ ∀ p ∈ r.2.2, p.1.size ≤ 60) ∧ Rise r.2.2) ∧ Hid (Below w.heap.size w wr)) (fun i _ => rs.length - (intOf i).toNat)
  case atStart => exact ⟨0, by omega, by go_num, fun i r h => by omega, HB⟩
  case round =>
    obtain ⟨k, hk, rfl, HK, HBL⟩ := hrel
    by_cases hlt : k < rs.length
    · obtain ⟨b, off, ra, rc, rl, rfl, hbw, hlk, c0⟩ := (HT.out.later HBL.out (Nat.le_refl _)).row hlt
      have hok := (HROW.out _ (List.mem_of_getElem? hlk)).1.later HBL.out (Nat.le_refl _)
      have HV := hide (HROW.out _ (List.mem_of_getElem? hlk)).2
      have HL := hide hlk
      have hrl := hok.len
      have HRS := hide hok.sl
      dsimp only at hrl HRS HV
      have HLP := hide (LightPairs_any ra rc rl 40 wr hrl HRS.out)
      have HRI := hide (rising_any ra rc rl wr hrl HRS.out)
      unfold maxLen at hrl
      obtain ⟨lp, hlp⟩ : ∃ lp, lightPairs rl 40 = lp := ⟨_, rfl⟩
      obtain ⟨ri, hri⟩ : ∃ ri, rises rl = ri := ⟨_, rfl⟩
      rw [hlp] at HLP
      rw [hri] at HRI
      have HLP2 := hide hlp
      have HRI2 := hide hri
      have f1 : (0 : Int) ≤ (k : Int) ∧ (k : Int) < (rs.length : Int) := by omega
      obtain ⟨f1, f2⟩ := f1
      clear hlk hok hlp hri
      go_wp2_with fail
      refine HLP.out.mono ?_
      rintro e w6 ⟨rfl, rfl⟩
      clear HLP
      cases lp
      · go_wp2
        go_ret
        exact ⟨rfl, HBL.out⟩
      go_wp2_with fail
      refine HRI.out.mono ?_
      rintro e w7 ⟨rfl, b7⟩
      clear HRI
      replace c0 := cell_later b7 c0
      replace HBL := hide (HBL.out.trans (b7.mono HBL.out.size))
      replace HRS := hide (HRS.out.later b7 (Nat.le_refl _))
      clear b7
      cases ri
      · go_wp2
        go_ret
        exact ⟨rfl, HBL.out⟩
      go_wp2_with fail
      go_loopw [9] (fun i wi => ∃ m : Nat, m ≤ rl.length ∧ i = .int .i64 m ∧ Below w7.heap.size w7 wi) (fun i _ => rl.length - (intOf i).toNat)
      case atStart => exact ⟨0, by omega, by go_num, Below.refl _ _⟩
      case round =>
        obtain ⟨m, hm2, rfl, hbi⟩ := hrel
        have c0' := cell_later hbi c0
        have HBI := hide (HBL.out.trans (hbi.mono HBL.out.size))
        have HBI7 := hide hbi
        by_cases hlt2 : m < rl.length
        · obtain ⟨pb, poff, x, y, rfl, hpw, hpk, d0, d1⟩ := (HRS.out.later hbi (Nat.le_refl _)).pair hlt2
          have hy := HV.out _ (List.mem_of_getElem? hpk)
          dsimp only at hy
          have HPF := hide (PairFault_any x y wr (by unfold maxLen; exact hy.1) hy.2)
          have g1 : (0 : Int) ≤ (m : Int) ∧ (m : Int) < (rl.length : Int) := by omega
          obtain ⟨g1, g2⟩ := g1
          generalize faultP x y = fp at *
          clear hpk hy hbi
          by_cases hfp : 0 < fp
          · have e3 : decide (0 < fp) = true := by simpa using hfp
            go_wp2_with fail
            refine HPF.out.mono ?_
            rintro e w8 ⟨rfl, b8⟩
            go_wp2
            go_ret
            exact ⟨rfl, HBI.out.trans (b8.mono HBI.out.size)⟩
          · have e3 : decide (0 < fp) = false := by simpa using hfp
            go_wp2_with fail
            refine HPF.out.mono ?_
            rintro e w8 ⟨rfl, b8⟩
            go_wp2
            go_roundw
            case rel => exact ⟨m + 1, by omega, by go_num, HBI7.out.trans (b8.mono HBI7.out.size)⟩
            case measure => (simp [intOf]; try omega)
        · have e3 : decide (m < rl.length) = false := by simpa using hlt2
          clear hbi
          go_wp2
          go_roundw
          case rel => exact ⟨k + 1, by omega, by go_num, fun i r hi hr => by
            by_cases e : i = k
            · subst e; rw [HL.out] at hr; cases hr; exact ⟨lightPairs_row HLP2.out, rises_rise HRI2.out⟩
            · exact HK.out i r (by omega) hr, HBI⟩
          case measure => (simp [intOf]; try omega)
    · obtain rfl : k = rs.length := by omega
      have HOK : Hid (RowsOk rs) := RowsOk.of (by omega) HK.out fun r hr p hp => ((HROW.out r hr).2 p hp).2
      clear HK hk
      have f9 : decide ((rs.length : Int) < (rs.length : Int)) = false := by simp
      by_cases hkf : kindFault kind = 0
      · have hkr : ¬ (kind < 1 ∨ 4 < kind) := by
          intro h
          unfold kindFault at hkf
          rw [if_pos h] at hkf
          cases hkf
        have e3 : decide (kind < 1) = false := by simp; omega
        have e4 : decide (4 < kind) = false := by simp; omega
        have HN := hide fun w' (hb : Below w.heap.size w w') => New_run kind ao ca rs w' hkf (by omega) (by have := HOK.out.tot; omega) HOK.out.rise (HT.out.later hb (Nat.le_refl _)) (fun r hr => ((HROW.out r hr).1.later hb (Nat.le_refl _)).sl)
        have HM := hide fun w' (hb : Below w.heap.size w w') => Merged_any ao ca rs w' (by omega) (by have := HOK.out.tot; omega) (HT.out.later hb (Nat.le_refl _)) (fun r hr => (HROW.out r hr).1.later hb (Nat.le_refl _))
        have HSR := hide HOK.out.srt
        generalize srt (rowsL rs).flatten = L at *
        have hL240 := HSR.out.2.1
        have hGl := groups_length kind L
        clear hkf hkr HROW HOK
        go_wp2_with fail
        refine (HN.out wr HBL.out).mono ?_
        rintro e w2 ⟨⟨g, rfl, hv⟩, b2⟩
        have HV := hide hv
        have HLO := hide HBL.out.size
        have HLO2 := hide b2.size
        replace HBL := hide (HBL.out.trans (b2.mono HBL.out.size))
        clear b2 hv
        go_wp2_with fail
        refine (HM.out w2 HBL.out).mono ?_
        rintro e w3 ⟨mv, rfl, mo, b3⟩
        replace HV := hide (HV.out.later b3)
        obtain ⟨ma, mc, rfl⟩ := id mo.1
        have HGp := hide (Grouped_any kind ma mc L w3 (by omega) (mo.sl encP_len))
        replace HBL := hide (HBL.out.trans (b3.mono HBL.out.size))
        have HLO3 := hide b3.size
        have hbw2 := HLO2.out
        clear mo b3 HM
        go_wp2_with fail
        refine HGp.out.mono ?_
        rintro e w4 ⟨gv, rfl, go, b4⟩
        replace HV := hide (HV.out.later b4)
        obtain ⟨aa, ac, rfl⟩ := id go.1
        have hcap := own_cap go
        have HSA := hide (go.sl encP_len)
        have HAB : Hid (∀ b off, aa = some ⟨b, off, none⟩ → w3.heap.size ≤ b ∧ b < w4.heap.size) := fun b off e => go.lt b (by subst e; rfl)
        replace HBL := hide (HBL.out.trans (b4.mono HBL.out.size))
        have HSN : Hid (∀ b off, aa = some ⟨b, off, none⟩ → ¬ (wr.heap.size ≤ b ∧ b < w2.heap.size) ∧ b < w4.heap.size) := fun b off e => by
          have h1 := HAB.out b off e
          have h2 := HLO3.out
          exact ⟨by omega, h1.2⟩
        have HBW : Hid (wr.heap.size ≤ w4.heap.size) := by
          have h1 := HLO3.out
          have h2 := b4.size
          have h3 := hbw2
          show _ ≤ _
          omega
        clear go b4 HGp hbw2
        go_wp2_with fail
        go_loopw [10, 13, 14] (fun rv av iv wq => ∃ (B c k : Nat) (S : Nat → Prop), k ≤ st.length ∧ iv = .int .i64 k ∧ av = .int .i64 c ∧ Hid (RunV wq B kind L c S rv) ∧ Hid (B ≤ wq.heap.size ∧ ∀ q, S q → w.heap.size ≤ q) ∧ Hid (∀ b off, aa = some ⟨b, off, none⟩ → ¬ S b ∧ b < wq.heap.size) ∧ Hid (Sl 2 encP wq aa (groups kind L)) ∧ c ≤ (groups kind L).length ∧ Hid (Below w.heap.size w wq)) (fun _ _ iv _ => st.length - (intOf iv).toNat)
        case atStart => exact ⟨wr.heap.size, 0, 0, _, by omega, by go_num, by go_num, HV, ⟨HBW.out, fun q hq => Nat.le_trans HLO.out hq.1⟩, HSN, HSA, by omega, HBL⟩
        case round =>
          clear HBL HV HSN HSA HAB HLO HLO3 HBW
          obtain ⟨B, c, k, S, hk, rfl, rfl, HV, HS, HA, HSA, hc, HBL⟩ := hrel
          obtain ⟨g, rfl⟩ := HV.out.ptr
          by_cases hlt : k < st.length
          · obtain ⟨sb, soff, s, rfl, hsw, hsk, d0⟩ := HST.out.int hlt
            have hs := HSV.out s (List.mem_of_getElem? hsk)
            have d1 := cell_later HBL.out d0
            have HST1 := hide (Step_run s _ HS.out.1 HV.out (by omega) hs.2)
            obtain ⟨c', hc'⟩ : ∃ c', c' = min (c + s.toNat) (groups kind L).length := ⟨_, rfl⟩
            rw [← hc'] at HST1
            have hce : (c : Int) + min (max 0 s) (((groups kind L).length : Int) - (c : Int)) = (c' : Int) := by omega
            have hcl : c' ≤ (groups kind L).length := by omega
            have f1 : (0 : Int) ≤ (k : Int) ∧ (k : Int) < (st.length : Int) := by omega
            obtain ⟨f1, f2⟩ := f1
            have HD0 := hide d0
            clear hsk hc' d0
            go_wp2_with fail
            refine HST1.out.mono ?_
            rintro e w5 ⟨⟨rfl, hv2⟩, k2⟩
            have hb5 := k2.below (B := w.heap.size) HS.out.2 HBL.out.size
            have HBL5 := hide (HBL.out.trans hb5)
            have d2 := cell_later HBL5.out HD0.out
            have HSA5 := hide (HSA.out.kept k2 (fun b off e => (HA.out b off e).1))
            have hw5 := k2.size
            have HA5 : Hid (∀ b off, aa = some ⟨b, off, none⟩ → b < w5.heap.size) := fun b off e => Nat.lt_of_lt_of_le (HA.out b off e).2 hw5
            have HV5 := hide hv2
            clear HST1 hb5 d1 HSA HA HV hv2 k2 HBL
            go_upto_region 25 with (fail)
            go_wp2_with fail
            have HO := hide fun w' (hb : Below w5.heap.size w5 w') => Out_run w' (HG.out.later (HBL5.out.trans (hb.mono HBL5.out.size)) (Nat.le_refl _)) (HV5.out.later hb) HSR.out.1
            have HPT : Hid (∀ w' : World, Below w5.heap.size w5 w' → Calls Tryd.prog 38 #[.slice aa c' ac] w' fun e w'' => e = .returned (.string (tx (textP ((groups kind L).take c')))) ∧ Below w'.heap.size w' w'') := by
              intro w' hb
              have h := PairsText_any aa ac ((groups kind L).take c') w' (run_okP HSR.out.1 kind c') ((HSA5.out.later hb (Nat.le_refl _)).takeK c')
              rw [List.length_take, Nat.min_eq_left hcl] at h
              exact h
            obtain ⟨ov, hov⟩ : ∃ ov, decide (c' = (groups kind L).length) = ov := ⟨_, rfl⟩
            have hq1 : (c' == (groups kind L).length) = ov := by rw [← hov]; rfl
            have hq2 : ((c' : Int) == ((groups kind L).length : Int)) = ov := by
              rw [← hov]
              by_cases h : c' = (groups kind L).length
              · simp [h]
              · have : ¬ (c' : Int) = ((groups kind L).length : Int) := by omega
                simp [h, this]
            rw [hov]
            have hqq : (ov != ov) = false := by simp
            have hcap2 : (0 : Int) ≤ (c' : Int) ∧ (c' : Int) ≤ (ac : Int) := by omega
            obtain ⟨g1, g2⟩ := hcap2
            generalize tx (textP ((groups kind L).take c')) = TX at *
            have htt := beqq TX
            refine wp_region_quiet_below (by kernel_rfl) (by kernel_rfl) ?_
            repeat (go_big_quiet_step (first
              | (go_at_call 45; exact Calls.regrown_of (HO.out _ (below_regrown _ _ _)))
              | (go_at_call 38; exact Calls.regrown_of (HPT.out _ (below_regrown _ _ _)))))
            refine wpQuiet_nil ?_
            intro _ hw'
            obtain ⟨⟨dq, osq⟩, hw''⟩ := hw'
            subst hw''
            have hbq := below_regrown w5 dq osq
            have HBL6 := hide (HBL5.out.trans (hbq.mono HBL5.out.size))
            have HSA6 := hide (HSA5.out.later hbq (Nat.le_refl _))
            have HV6 := hide (HV5.out.later hbq)
            have hw6 := hbq.size
            have HA6 : Hid (∀ b off, aa = some ⟨b, off, none⟩ → b < (Go.Sort.grow (redrawn w5 dq) osq).heap.size) := fun b off e => Nat.lt_of_lt_of_le (HA5.out b off e) hw6
            clear HO HPT hov hq1 hq2 hqq g1 g2 htt d2 hbq HBL5 HSA5 HV5 HA5
            generalize Go.Sort.grow (redrawn w5 dq) osq = W6 at *
            clear hw6 hw5
            go_wp2_with fail
            refine (HN.out W6 HBL6.out).mono ?_
            rintro e w7 ⟨⟨g2, rfl, hv7⟩, b7⟩
            have HV7 := hide hv7
            have HVR := hide (HV6.out.later b7)
            have HBL7 := hide (HBL6.out.trans (b7.mono HBL6.out.size))
            have HSA7 := hide (HSA6.out.later b7 (Nat.le_refl _))
            have HW7 := hide b7.size
            have HSAV := hide (Save_run w7 (HG.out.later HBL7.out (Nat.le_refl _)) HVR.out HSR.out.1)
            clear hv7 b7 HV6 HSA6
            go_wp2_with fail
            refine HSAV.out.mono ?_
            rintro e w8 ⟨⟨n8, rfl, hn8, hst8⟩, b8⟩
            have HBL8 := hide (HBL7.out.trans (b8.mono HBL7.out.size))
            have HSA8 := hide (HSA7.out.later b8 (Nat.le_refl _))
            have HW8 := hide b8.size
            have HLD := hide (Load_run w8 (HG.out.later HBL8.out (Nat.le_refl _)) (Nat.le_trans HW7.out HW8.out) (HV7.out.later b8) hst8 hn8 hcl HSR.out.1 (by have := groups_small kind HSR.out.2.1 HSR.out.2.2 c'; omega))
            clear b8 hst8 hn8 HSAV HVR HSA7
            go_wp2_with fail
            refine HLD.out.mono ?_
            rintro e w9 ⟨⟨rfl, hv9⟩, k9⟩
            have HV9 := hide hv9
            have HSA9 := hide (HSA8.out.kept k9 (fun b off e hq => by have := HA6.out b off e; omega))
            have HBL9 := hide (HBL8.out.trans (k9.below (B := w.heap.size) (fun q hq => Nat.le_trans HBL6.out.size hq.1) HBL8.out.size))
            have HS9 : Hid (W6.heap.size ≤ w9.heap.size ∧ ∀ q, ((W6.heap.size ≤ q ∧ q < w7.heap.size) ∨ w8.heap.size ≤ q) → w.heap.size ≤ q) := by
              have h1 := HBL6.out.size
              have h2 := HW7.out
              have h3 := HW8.out
              have h4 := k9.size
              exact ⟨by omega, fun q hq => by omega⟩
            have HA9 : Hid (∀ b off, aa = some ⟨b, off, none⟩ → ¬ ((W6.heap.size ≤ b ∧ b < w7.heap.size) ∨ w8.heap.size ≤ b) ∧ b < w9.heap.size) := fun b off e => by
              have h1 := HA6.out b off e
              have h2 := HW7.out
              have h3 := HW8.out
              have h4 := k9.size
              exact ⟨by omega, by omega⟩
            clear hv9 k9 HLD HSA8 HBL8 HV7 HA6 HBL6 HBL7
            go_wp2
            go_roundw
            case rel => exact ⟨_, c', k + 1, _, by omega, by go_num, rfl, HV9, HS9, HA9, HSA9, hcl, HBL9⟩
            case measure => (simp [intOf]; try omega)
          · have f3 : decide (k < st.length) = false := by simpa using hlt
            have HO := hide fun w' (hb : Below wr.heap.size wr w') => Out_run w' (HG.out.later (HBL.out.trans (hb.mono HBL.out.size)) (Nat.le_refl _)) (HV.out.later hb) HSR.out.1
            have HPT : Hid (∀ w' : World, Below wr.heap.size wr w' → Calls Tryd.prog 38 #[.slice aa c ac] w' fun e w'' => e = .returned (.string (tx (textP ((groups kind L).take c)))) ∧ Below w'.heap.size w' w'') := by
              intro w' hb
              have h := PairsText_any aa ac ((groups kind L).take c) w' (run_okP HSR.out.1 kind c) ((HSA.out.later hb (Nat.le_refl _)).takeK c)
              rw [List.length_take, Nat.min_eq_left hc] at h
              exact h
            have hcap2 : (0 : Int) ≤ (c : Int) ∧ (c : Int) ≤ (ac : Int) := by omega
            obtain ⟨g1, g2⟩ := hcap2
            generalize tx (textP ((groups kind L).take c)) = TX at *
            have htt := beqq TX
            go_upto_region 32 with (fail)
            refine wp_region_quiet_below (by kernel_rfl) (by kernel_rfl) ?_
            repeat (go_big_quiet_step (first
              | (go_at_call 45; exact Calls.regrown_of (HO.out _ (below_regrown _ _ _)))
              | (go_at_call 38; exact Calls.regrown_of (HPT.out _ (below_regrown _ _ _)))))
            refine wpQuiet_nil ?_
            intro _ hw'
            obtain ⟨⟨dq, osq⟩, hw''⟩ := hw'
            subst hw''
            have HBL6 := hide (HBL.out.trans ((below_regrown wr dq osq).mono HBL.out.size))
            clear HO HPT
            go_wp2
            go_ret
            exact ⟨rfl, HBL6.out⟩
      · have hk3 : kindFault kind = 3 := by
          unfold kindFault at hkf ⊢
          split at hkf
          · rename_i h; rw [if_pos h]
          · exact absurd rfl hkf
        have hkr : kind < 1 ∨ 4 < kind := by
          unfold kindFault at hkf
          split at hkf
          · assumption
          · exact absurd rfl hkf
        have HNB := hide (New_bad kind ao ca rs.length wr hkf)
        rw [hk3] at HNB
        have HSM := hide fun w => same_refl 3 w (by decide)
        clear HROW HOK hk3 hkf
        by_cases hk1 : kind < 1
        · have e3 : decide (kind < 1) = true := by simpa using hk1
          go_wp2_with fail
          refine HNB.out.mono ?_
          rintro e w2 ⟨rfl, rfl⟩
          go_wp2_with fail
          refine (HSM.out _).mono ?_
          rintro e w2 ⟨rfl, rfl⟩
          go_wp2
          go_ret
          exact ⟨rfl, HBL.out⟩
        · have e3 : decide (kind < 1) = false := by simpa using hk1
          have e4 : decide (4 < kind) = true := by simp; omega
          go_wp2_with fail
          refine HNB.out.mono ?_
          rintro e w2 ⟨rfl, rfl⟩
          go_wp2_with fail
          refine (HSM.out _).mono ?_
          rintro e w2 ⟨rfl, rfl⟩
          go_wp2
          go_ret
          exact ⟨rfl, HBL.out⟩
end Go.Proofs.YtkodbldfoldbjaaDoor
