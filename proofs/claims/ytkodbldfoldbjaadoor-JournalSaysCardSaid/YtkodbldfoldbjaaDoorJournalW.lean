/- JournalSays: the law's walk. -/
import Derived.Test.YtkodbldfoldbjaaDoorJour7
import Derived.Lib.QuietBelow
set_option linter.unusedSimpArgs false
set_option linter.unusedVariables false
namespace Go.Proofs.YtkodbldfoldbjaaDoor
open Go.RowKit

theorem rest_drop (S : List UInt8) : S.drop (S.length - (restOf S).length) = restOf S ∧ (restOf S).length ≤ S.length := by
  unfold restOf
  cases h : oneE S with
  | none => simp
  | some x => exact ⟨oneE_drop (e := x.1) h, Nat.le_of_lt (oneE_len (e := x.1) h)⟩
theorem enOf_small (S : List UInt8) : (enOf S).2.1.length ≤ S.length ∧ (enOf S).2.2.length ≤ S.length := by
  unfold enOf
  cases h : oneE S with
  | none => simp
  | some x => exact oneE_small (e := x.1) (r := x.2) h
set_option maxRecDepth 100000 in
set_option maxHeartbeats 8000000 in
theorem JournalSays_walk (k : ByteArray) (na : Option Addr) (nc : Nat) (N : List Int) (ta : Option Addr) (tc : Nat) (T : List ByteArray) (s : ByteArray) (w : World) (hg : GW w) (ha : EnArg w (k, (na, nc, N), (ta, tc, T))) :
    Calls Tryd.prog 6 #[.agg #[.string k, .slice na N.length nc, .slice ta T.length tc], .string s] w fun e w' => e = .returned (.bool true) ∧ Below w.heap.size w w' := by
  have hb0 : Below w.heap.size w (w.alloc (.cells #[.string k, .slice na N.length nc, .slice ta T.length tc] 73)) := (Below.refl _ _).alloc (Nat.le_refl _) _
  have hbk : Bk (w.alloc (.cells #[.string k, .slice na N.length nc, .slice ta T.length tc] 73)) w.heap.size [.string k, .slice na N.length nc, .slice ta T.length tc] := Bk.new rfl
  have HEN := hide fun w' (hb : Below w.heap.size w w') => entries_any w' (hg.later hb (Nat.le_refl _))
  have HG := hide hg
  have HA := hide ha
  have HB := hide hb0
  have HBK := hide hbk
  clear hg ha hb0 hbk
  go_enter Tryd.func6, Tryd.ntmps6
  go_upto_region 1 with (fail)
  generalize w.alloc (.cells #[.string k, .slice na N.length nc, .slice ta T.length tc] 73) = W at *
  go_wp2_with fail
  refine (HEN.out _ HB.out).mono ?_
  rintro e w1 ⟨rfl, b1⟩
  replace HB := hide (HB.out.trans (b1.mono HB.out.size))
  replace HBK := hide (HBK.out.later b1)
  clear HEN b1
  have c0 := HBK.out.get (j := 0) rfl
  have c1 := HBK.out.get (j := 1) rfl
  have c2 := HBK.out.get (j := 2) rfl
  have hTm := HA.out.tlen
  dsimp only at hTm
  have HLT := hide (LightTexts_any ta tc T 10 500 w1 hTm (HA.out.texts.later HB.out (Nat.le_refl _)))
  obtain ⟨lt, hlt2⟩ : ∃ lt, lightTexts T 10 500 = lt := ⟨_, rfl⟩
  rw [hlt2] at HLT
  have HLT2 := hide hlt2
  clear hlt2 hTm
  by_cases hk1 : 50 < k.size
  · have g1 : decide ((50 : Int) < (k.size : Int)) = true := by simp; omega
    go_wp2
    go_ret
    exact ⟨rfl, HB.out⟩
  have g1 : decide ((50 : Int) < (k.size : Int)) = false := by simp; omega
  by_cases hk2 : 20 < N.length
  · have g2 : decide ((20 : Int) < (N.length : Int)) = true := by simp; omega
    go_wp2
    go_ret
    exact ⟨rfl, HB.out⟩
  have g2 : decide ((20 : Int) < (N.length : Int)) = false := by simp; omega
  by_cases hk3 : 3000 < s.size
  · have g3 : decide ((3000 : Int) < (s.size : Int)) = true := by simp; omega
    cases lt
    all_goals
      go_wp2_with fail
      refine HLT.out.mono ?_
      rintro e w3 ⟨rfl, rfl⟩
      go_wp2
      go_ret
      exact ⟨rfl, HB.out⟩
  have g3 : decide ((3000 : Int) < (s.size : Int)) = false := by simp; omega
  go_wp2_with fail
  refine HLT.out.mono ?_
  rintro e w3 ⟨rfl, rfl⟩
  clear HLT
  cases lt
  · go_wp2
    go_ret
    exact ⟨rfl, HB.out⟩
  obtain ⟨hT10, hTs⟩ := lightTexts_of HLT2.out
  have HTS := hide hTs
  obtain ⟨S, rfl⟩ : ∃ S, s = tx S := ⟨_, (tx_of s).symm⟩
  rw [tx_size] at hk3
  clear HLT2 hTs
  obtain ⟨W2, rfl⟩ : ∃ w3, w3 = w1 := ⟨_, rfl⟩
  have HJT := hide fun w' (hb : Below W2.heap.size W2 w') => JText_any k na nc N ta tc T w' (HG.out.later (HB.out.trans (hb.mono HB.out.size)) (Nat.le_refl _)) (by omega) (by omega) (by omega) HA.out.i64 (fun t ht => by have := HTS.out t ht; omega) (HA.out.nums.later (HB.out.trans (hb.mono HB.out.size)) (Nat.le_refl _)) (HA.out.texts.later (HB.out.trans (hb.mono HB.out.size)) (Nat.le_refl _)) HA.out.cap
  have HET := hide fun w' (hb : Below W2.heap.size W2 w') => EText_any k na nc N ta tc T w' (by omega) (by omega) (by omega) HA.out.i64 (fun t ht => by have := HTS.out t ht; omega) (HA.out.nums.later (HB.out.trans (hb.mono HB.out.size)) (Nat.le_refl _)) (HA.out.texts.later (HB.out.trans (hb.mono HB.out.size)) (Nat.le_refl _))
  generalize tx (entT (k, N, T)) = TE at *
  have hte := beqq TE
  have k0' := cell_regrown c0
  have k1' := cell_regrown c1
  have k2' := cell_regrown c2
  go_upto_region 4 with (fail)
  refine wp_region_quiet_below (by kernel_rfl) (by kernel_rfl) ?_
  repeat (go_big_quiet_step (first
    | (go_at_call 50; exact Calls.regrown_of (HJT.out _ (below_regrown _ _ _)))
    | (go_at_call 51; exact Calls.regrown_of (HET.out _ (below_regrown _ _ _)))))
  refine wpQuiet_nil ?_
  intro _ hw'
  obtain ⟨⟨dq, osq⟩, hw''⟩ := hw'
  subst hw''
  have HB3 := hide (HB.out.trans ((below_regrown W2 dq osq).mono HB.out.size))
  clear k0' k1' k2' HJT HET hte c0 c1 c2 g1 g2 g3 HBK HB HTS
  generalize Go.Sort.grow (redrawn W2 dq) osq = W3 at *
  have HO := hide (One_any (tx S) W3 (HG.out.later HB3.out (Nat.le_refl _)) (by rw [tx_size]; omega))
  have HF := hide fun w' => First_any (tx S) w' (by rw [tx_size]; omega)
  unfold OnePost at HO
  unfold FirstPost at HF
  simp only [tx_list] at HO HF
  obtain ⟨hrd, hrl⟩ := rest_drop S
  obtain ⟨hes1, hes2⟩ := enOf_small S
  obtain ⟨nn, hnn⟩ : ∃ nn : Nat, (S.length : Int) - ((restOf S).length : Int) = (nn : Int) := ⟨S.length - (restOf S).length, by omega⟩
  have hext : (tx S).extract nn (tx S).size = tx (restOf S) := by
    rw [tx_extD, show nn = S.length - (restOf S).length by omega, hrd]
  have hnl : (nn : Int) ≤ ((tx S).size : Int) := by rw [tx_size]; omega
  simp only [hnn] at HF
  clear hnn hrd hrl
  generalize enOf S = en at *
  generalize restOf S = re at *
  generalize okE S = ok at *
  have hne1 : en.2.1.length ≤ 3000 := by omega
  have hne2 : en.2.2.length ≤ 3000 := by omega
  clear hes1 hes2
  go_wp2_with fail
  refine HO.out.mono ?_
  rintro e w4 ⟨⟨na1, nc1, ta1, tc1, rfl, hn1, ht1, _, _⟩, b4⟩
  unfold enV
  have hbA : Below w4.heap.size w4 (w4.alloc (.cells #[.string en.1, .slice na1 en.2.1.length nc1, .slice ta1 en.2.2.length tc1] 73)) := (Below.refl _ _).alloc (Nat.le_refl _) _
  have hbk : Bk (w4.alloc (.cells #[.string en.1, .slice na1 en.2.1.length nc1, .slice ta1 en.2.2.length tc1] 73)) w4.heap.size [.string en.1, .slice na1 en.2.1.length nc1, .slice ta1 en.2.2.length tc1] := Bk.new rfl
  have HN1 := hide (hn1.later hbA (Nat.le_refl _))
  have HT1 := hide (ht1.later hbA (Nat.le_refl _))
  have HB4 := hide ((HB3.out.trans (b4.mono HB3.out.size)).trans (hbA.mono (HB3.out.trans (b4.mono HB3.out.size)).size))
  have HBX := hide hbk
  clear hn1 ht1 b4 hbA hbk HO HB3
  go_upto_region 7 with (fail)
  generalize w4.alloc (.cells #[.string en.1, .slice na1 en.2.1.length nc1, .slice ta1 en.2.2.length tc1] 73) = W4 at *
  generalize w4.heap.size = xb at *
  go_wp2_with fail
  refine (HF.out _).mono ?_
  rintro e w5 ⟨⟨na2, nc2, ta2, tc2, rfl, hn2, ht2, _, _⟩, b5⟩
  unfold enV
  have hbA : Below w5.heap.size w5 (w5.alloc (.cells #[.string en.1, .slice na2 en.2.1.length nc2, .slice ta2 en.2.2.length tc2] 77)) := (Below.refl _ _).alloc (Nat.le_refl _) _
  have hbk : Bk (w5.alloc (.cells #[.string en.1, .slice na2 en.2.1.length nc2, .slice ta2 en.2.2.length tc2] 77)) w5.heap.size [.string en.1, .slice na2 en.2.1.length nc2, .slice ta2 en.2.2.length tc2] := Bk.new rfl
  have HN2 := hide (hn2.later hbA (Nat.le_refl _))
  have HT2 := hide (ht2.later hbA (Nat.le_refl _))
  replace HB4 := hide (HB4.out.trans (b5.mono HB4.out.size))
  replace HN1 := hide (HN1.out.later b5 (Nat.le_refl _))
  replace HT1 := hide (HT1.out.later b5 (Nat.le_refl _))
  replace HBX := hide (HBX.out.later b5)
  replace HB4 := hide (HB4.out.trans (hbA.mono HB4.out.size))
  replace HN1 := hide (HN1.out.later hbA (Nat.le_refl _))
  replace HT1 := hide (HT1.out.later hbA (Nat.le_refl _))
  replace HBX := hide (HBX.out.later hbA)
  have HBY := hide hbk
  clear hn2 ht2 b5 hbA hbk HF
  go_upto_region 8 with (fail)
  generalize w5.alloc (.cells #[.string en.1, .slice na2 en.2.1.length nc2, .slice ta2 en.2.2.length tc2] 77) = W5 at *
  generalize w5.heap.size = yb at *
  have x0 := HBX.out.get (j := 0) rfl
  have x1 := HBX.out.get (j := 1) rfl
  have x2 := HBX.out.get (j := 2) rfl
  have y0 := HBY.out.get (j := 0) rfl
  have y1 := HBY.out.get (j := 1) rfl
  have y2 := HBY.out.get (j := 2) rfl
  have HSE := hide (sameEntry_any en.1 na1 ta1 na2 ta2 nc1 tc1 nc2 tc2 en.2.1 en.2.2 W5 (by unfold maxLen; omega) (by omega) HN1.out HT1.out HN2.out HT2.out)
  have hoo : (ok != ok) = false := by simp
  have hrr := beqq (tx re)
  clear HBX HBY HN1 HT1 HN2 HT2
  go_wp2_with fail
  refine HSE.out.mono ?_
  rintro e w6 ⟨rfl, b6⟩
  replace HB4 := hide (HB4.out.trans (b6.mono HB4.out.size))
  clear b6 HSE x0 x1 x2 y0 y1 y2 hoo hrr hext hnl
  have HP1 := hide (ParseE_any (tx S) w6 (HG.out.later HB4.out (Nat.le_refl _)) (by rw [tx_size]; omega))
  have HP2 := hide fun w' => Entries_any (tx S) w' (by rw [tx_size]; omega)
  unfold ParseEPost at HP1 HP2
  simp only [tx_list] at HP1 HP2
  have HSM := hide (parseE_small _ S (Nat.le_refl _))
  go_wp2_with fail
  refine HP1.out.mono ?_
  rintro e w7 ⟨v7, rs1, rfl, hrs1, ho7, hrow7, b7⟩
  replace HB4 := hide (HB4.out.trans (b7.mono HB4.out.size))
  obtain ⟨xa1, xc1, rfl⟩ := id ho7.1
  have HR1 := hide hrow7
  have HO1 := hide ho7
  have HM1 := hide hrs1
  clear HP1 b7 ho7 hrow7 hrs1
  go_wp2_with fail
  refine (HP2.out _).mono ?_
  rintro e w8 ⟨v8, rs2, rfl, hrs2, ho8, hrow8, b8⟩
  obtain ⟨xa2, xc2, rfl⟩ := id ho8.1
  replace HR1 : Hid (∀ r ∈ rs1, EnRow w8 (.slice xa1 rs1.length xc1) r) := fun r hr => (HR1.out r hr).later b8
  replace HO1 := hide ((HO1.out.later b8).sl encEn_len)
  have HO2 := hide (ho8.sl encEn_len)
  have HR2 := hide hrow8
  have HM2 : Hid (rs1.map enOfR = rs2.map enOfR) := by show _ = _; rw [HM1.out, hrs2]
  replace HB4 := hide (HB4.out.trans (b8.mono HB4.out.size))
  have hll : rs1.length = rs2.length := by
    have := congrArg List.length HM2.out
    simpa using this
  have hrl : rs1.length ≤ 3000 := by
    have h1 := congrArg List.length HM1.out
    have h2 := HSM.out.1
    rw [List.length_map] at h1
    omega
  have HMS : Hid (∀ r ∈ rs1, (enOfR r).2.1.length ≤ 3000 ∧ (enOfR r).2.2.length ≤ 3000) := fun r hr => by
    have h1 : enOfR r ∈ parseE S := by rw [← HM1.out]; exact List.mem_map.2 ⟨r, hr, rfl⟩
    have h2 := HSM.out.2 _ h1
    exact ⟨by omega, by omega⟩
  have e9 : (rs1.length != rs2.length) = false := by simp [hll]
  have HLL := hide hll
  clear hrs2 ho8 hrow8 b8 HP2 hll
  go_wp2_with fail
  go_loopw [14] (fun v wr => ∃ j : Nat, j ≤ rs1.length ∧ v = .int .i64 j ∧ Below w8.heap.size w8 wr) (fun v _ => rs1.length - (intOf v).toNat)
  case atStart => exact ⟨0, by omega, rfl, Below.refl _ _⟩
  case round =>
    obtain ⟨j, hj, rfl, hbl⟩ := hrel
    have HBq := hide (HB4.out.trans (hbl.mono HB4.out.size))
    have HBL := hide hbl
    have hll := HLL.out
    by_cases hlt : j < rs1.length
    · obtain ⟨xb, xoff, r1, rfl, hxw, hx1, c0, c1, c2⟩ := (HO1.out.later hbl (Nat.le_refl _)).entry hlt
      obtain ⟨lb, loff, r2, rfl, hlw, hx2, d0, d1, d2⟩ := (HO2.out.later hbl (Nat.le_refl _)).entry (show j < rs2.length by omega)
      have hq : (rs1.map enOfR)[j]? = (rs2.map enOfR)[j]? := by rw [HM2.out]
      rw [List.getElem?_map, List.getElem?_map, hx1, hx2] at hq
      have hR1 := (HR1.out r1 (List.mem_of_getElem? hx1)).later hbl
      have hR2 := (HR2.out r2 (List.mem_of_getElem? hx2)).later hbl
      obtain ⟨hm1, hm2⟩ := HMS.out r1 (List.mem_of_getElem? hx1)
      obtain ⟨k1, ⟨na1, nc1, N1⟩, ⟨ta1, tc1, T1⟩⟩ := r1
      obtain ⟨k2, ⟨na2, nc2, N2⟩, ⟨ta2, tc2, T2⟩⟩ := r2
      simp only [enOfR, Option.map_some, Option.some.injEq, Prod.mk.injEq] at hq hm1 hm2
      obtain ⟨rfl, rfl, rfl⟩ := hq
      have HSE := hide fun w' (hb : Below wr.heap.size wr w') => sameEntry_any k1 na1 ta1 na2 ta2 nc1 tc1 nc2 tc2 N1 T1 w' (by unfold maxLen; omega) (by omega) (hR1.nums.later hb (Nat.le_refl _)) (hR1.texts.later hb (Nat.le_refl _)) (hR2.nums.later hb (Nat.le_refl _)) (hR2.texts.later hb (Nat.le_refl _))
      try dsimp only at c0 c1 c2 d0 d1 d2
      try dsimp only at HSE
      have f1 : (0 : Int) ≤ (j : Int) ∧ (j : Int) < (rs1.length : Int) ∧ (j : Int) < (rs2.length : Int) := by omega
      obtain ⟨f1, f2, f3⟩ := f1
      have k0' := cell_regrown c0
      have k1' := cell_regrown c1
      have k2' := cell_regrown c2
      have l0' := cell_regrown d0
      have l1' := cell_regrown d1
      have l2' := cell_regrown d2
      have e2 : decide (j < rs1.length) = true := by simpa using hlt
      clear hx1 hx2 hR1 hR2 hbl hll
      go_upto_region 17 with (fail)
      refine wp_region_quiet_below (by kernel_rfl) (by kernel_rfl) ?_
      repeat (go_big_quiet_step (first
        | (go_at_call 54; exact Calls.regrown_of (HSE.out _ (below_regrown _ _ _)))))
      refine wpQuiet_nil ?_
      intro _ hw'
      obtain ⟨⟨dq, osq⟩, hw''⟩ := hw'
      subst hw''
      have HBL2 := hide (HBL.out.trans ((below_regrown wr dq osq).mono HBL.out.size))
      clear k0' k1' k2' l0' l1' l2' HSE
      go_wp2
      go_roundw
      case rel => exact ⟨j + 1, by omega, by go_num, HBL2.out⟩
      case measure => (simp [intOf]; try omega)
    · have e2 : decide (j < rs1.length) = false := by simpa using hlt
      clear hbl
      go_wp2
      go_ret
      exact ⟨rfl, HBq.out⟩
end Go.Proofs.YtkodbldfoldbjaaDoor
