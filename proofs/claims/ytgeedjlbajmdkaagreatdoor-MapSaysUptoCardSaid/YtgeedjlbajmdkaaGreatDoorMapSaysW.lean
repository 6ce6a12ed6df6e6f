/- MapSays: the law's walk. -/
import Derived.Test.YtgeedjlbajmdkaaGreatDoorMapSaysI
import Derived.Test.YtgeedjlbajmdkaaGreatDoorRecords
import Derived.Test.YtgeedjlbajmdkaaGreatDoorRefCut
import Derived.Test.YtgeedjlbajmdkaaGreatDoorRefJF
import Derived.Test.YtgeedjlbajmdkaaGreatDoorJobCheck
import Derived.Test.YtgeedjlbajmdkaaGreatDoorMSave
import Derived.Deep.RegionHeld3
set_option linter.unusedSimpArgs false
set_option linter.unusedVariables false
namespace Go.Proofs.YtgeedjlbajmdkaaGreatDoor
open Go.RowKit

theorem cutP_rows (fold : Int) (many : Nat) (early : Bool) (L : List Pr) (hl : L.length ≤ 100000) : (cutP fold early many L).length = many ∧ ∀ l ∈ cutP fold early many L, l.length ≤ maxLen := by
  refine ⟨cutP_len fold early many L, fun l h => ?_⟩
  obtain ⟨n, hn⟩ := List.mem_iff_getElem?.1 h
  have hlt := (List.getElem?_eq_some_iff.1 hn).1
  rw [cutP_len] at hlt
  rw [cutP_get hlt] at hn
  have hf := List.length_filter_le (inSlice many n) L
  have he := Option.some.inj hn
  split at he
  · rw [← he]
    have := groups_length fold (srt (L.filter (inSlice many n)))
    rw [srt_len] at this
    unfold grp maxLen
    omega
  · rw [← he, srt_len]
    unfold maxLen
    omega
theorem same_selfM (n : Int) (w : World) (hn : 0 ≤ n) : Calls Tryz.prog 9 #[errV n, .int .i64 n] w fun e w' => e = .returned (.bool true) ∧ w = w' :=
  (same_any n n w hn).mono fun e w' h => ⟨by rw [h.1]; simp, h.2⟩
set_option maxRecDepth 100000 in
set_option maxHeartbeats 4000000 in
theorem MapSays_walk (inp : List UInt8) (ro : Option Addr) (rc : Nat) (rs : List RuleR) (fold slices : Int) (early : Bool) (lo : Option Addr) (lc : Nat) (lines : List ByteArray) (so : Option Addr) (sc : Nat) (st : List Int) (w : World) (hg : GW w) (hj : JobIn w ro rc rs fold slices) (hnodes : ∀ r ∈ rs, r.cond.tree.nodes ≤ 2000000 ∧ r.key.tree.nodes ≤ 2000000 ∧ r.val.tree.nodes ≤ 2000000) (hin : inp.length ≤ maxLen)
    (hll : lines.length ≤ maxLen) (hs : Sl 1 encS w lo lines) (hn : lo = none → lc = 0) (hstl : st.length ≤ maxLen) (hst : Sl 1 encInt w so st) (hsv : ∀ s ∈ st, -9223372036854775808 ≤ s ∧ s ≤ 9223372036854775807) :
    Calls Tryz.prog 4 #[.string (tx inp), .agg #[.slice ro rs.length rc, .int .i64 fold, .bool early, .int .i64 slices], .slice lo lines.length lc, .slice so st.length sc] w fun e w' => e = .returned (.bool true) ∧ Below w.heap.size w w' := by
  obtain ⟨W1, hW1⟩ : ∃ W, W = w.alloc (.cells #[.slice ro rs.length rc, .int .i64 fold, .bool early, .int .i64 slices] 24) := ⟨_, rfl⟩
  have hb1 : Below w.heap.size w W1 := by rw [hW1]; exact (Below.refl _ _).alloc (Nat.le_refl _) _
  have hbj : Bk W1 w.heap.size [.slice ro rs.length rc, .int .i64 fold, .bool early, .int .i64 slices] := by rw [hW1]; exact Bk.new rfl
  have HB1 := hide hb1
  have HBJ := hide hbj
  have HW1 := hide hW1
  have HGB := hide fun w' (hb : Below W1.heap.size W1 w') => (hg.later hb1 (Nat.le_refl _)).later hb (Nat.le_refl _)
  have HRS := hide fun w' (hb : Below W1.heap.size W1 w') => (⟨(hj.sl.later hb1 (Nat.le_refl _)).later hb (Nat.le_refl _), fun r hr => by obtain ⟨d, h⟩ := hj.at_ r hr; exact ⟨d, (h.later hb1 (Nat.le_refl _)).later hb (Nat.le_refl _)⟩⟩ : Sl 15 encRule w' ro rs ∧ ∀ r ∈ rs, ∃ d, RuleAt w' d r)
  have HLS := hide fun w' (hb : Below W1.heap.size W1 w') => (hs.later hb1 (Nat.le_refl _)).later hb (Nat.le_refl _)
  have HST := hide fun w' (hb : Below W1.heap.size W1 w') => (hst.later hb1 (Nat.le_refl _)).later hb (Nat.le_refl _)
  have HLJ := hide fun w' (hb : Below W1.heap.size W1 w') => LightJob_any ro rc rs fold slices early w' hj.len (HRS.out w' hb).1 (HRS.out w' hb).2
  have HJF := hide fun w' (hb : Below W1.heap.size W1 w') => JobFault_any ro rc rs fold slices early w' hj.len (HRS.out w' hb).1 (HRS.out w' hb).2 hnodes
  have HNF := hide fun w' (hb : Below W1.heap.size W1 w') hf => MNew_fault ro rc rs fold slices early lo lc lines w' (HRS.out w' hb).1 (HRS.out w' hb).2 hj.len hll hf
  have HLT := hide fun w' (hb : Below W1.heap.size W1 w') => LightTexts_any lo lc lines 70 150 w' hll (HLS.out w' hb)
  have HMP := hide (maps_any W1 (HGB.out _ (Below.refl _ _)).gm)
  have HSM := hide fun (n : Int) (w' : World) (h : 0 ≤ n) => same_selfM n w' h
  have HSV := hide hsv
  have HN := hide hn
  have HJI := hide hj
  have hlr := hj.len
  have hjn := jobF_nn (rs.map RuleR.v) fold slices
  obtain ⟨lt, hlt⟩ : ∃ lt, lightTexts lines 70 150 = lt := ⟨_, rfl⟩
  have HLTX := hide hlt
  rw [hlt] at HLT
  obtain ⟨jf, hjf⟩ : ∃ jf, jobF (rs.map RuleR.v) fold slices = jf := ⟨_, rfl⟩
  rw [hjf] at HJF HNF hjn
  have HJE := hide hjf
  unfold maxLen at hin hll hstl hlr
  unfold SomeB at HLJ
  clear hb1 hbj hW1 hg hj hs hst hsv hn hlt hjf
  go_enter Tryz.func4, Tryz.ntmps4
  go_upto_region 1 with (fail)
  rw [← HW1.out]
  clear HW1
  go_wp2_with fail
  refine HMP.out.mono ?_
  rintro e w2 ⟨rfl, b2⟩
  have HB := hide b2
  clear HMP b2
  have hisz : (tx inp).size = inp.length := tx_size inp
  by_cases h9 : 9000 < inp.length
  · have g1 : decide ((9000 : Int) < ((tx inp).size : Int)) = true := by rw [hisz]; simp; omega
    have g2 : decide ((9000 : Int) < (inp.length : Int)) = true := by simp; omega
    clear hisz
    go_wp2
    go_ret
    exact ⟨rfl, HB1.out.trans (HB.out.mono HB1.out.size)⟩
  have g1 : decide ((9000 : Int) < ((tx inp).size : Int)) = false := by rw [hisz]; simp; omega
  have g2 : decide ((9000 : Int) < (inp.length : Int)) = false := by simp; omega
  clear hisz
  have hbk2 := HBJ.out.later HB.out
  have j0 := hbk2.get (j := 0) rfl
  have j1 := hbk2.get (j := 1) rfl
  have j2 := hbk2.get (j := 2) rfl
  have j3 := hbk2.get (j := 3) rfl
  clear hbk2
  go_wp2_with fail
  refine (HLJ.out _ HB.out).mono ?_
  rintro e w3 ⟨⟨b, rfl⟩, b3⟩
  replace j0 := cell_later b3 j0
  replace j1 := cell_later b3 j1
  replace j2 := cell_later b3 j2
  replace j3 := cell_later b3 j3
  replace HB := hide (HB.out.trans (b3.mono HB.out.size))
  clear b3 HLJ
  cases b with
  | false =>
    clear HLT
    go_wp2
    go_ret
    exact ⟨rfl, HB1.out.trans (HB.out.mono HB1.out.size)⟩
  | true =>
  go_wp2_with fail
  refine (HLT.out _ HB.out).mono ?_
  rintro e w4 ⟨rfl, rfl⟩
  clear HLT
  cases lt with
  | false =>
    go_wp2
    go_ret
    exact ⟨rfl, HB1.out.trans (HB.out.mono HB1.out.size)⟩
  | true =>
  by_cases h30 : 30 < st.length
  · have g3 : decide ((30 : Int) < (st.length : Int)) = true := by simp; omega
    go_wp2
    go_ret
    exact ⟨rfl, HB1.out.trans (HB.out.mono HB1.out.size)⟩
  have g3 : decide ((30 : Int) < (st.length : Int)) = false := by simp; omega
  have HREC := hide (Records_any inp w3 (HGB.out _ HB.out).gm (by omega))
  unfold RecPost at HREC
  have hrn := recF_nn inp
  obtain ⟨rf, hrf⟩ : ∃ rf, recF inp = rf := ⟨_, rfl⟩
  obtain ⟨rl, hrl⟩ : ∃ rl, recL inp = rl := ⟨_, rfl⟩
  have hrl9 : rl.length ≤ 9001 := by
    rw [← hrl]; unfold recL
    split
    · simp
    · have := linesR_len inp; omega
  rw [hrf, hrl] at HREC
  rw [hrf] at hrn
  go_wp2_with fail
  refine HREC.out.mono ?_
  rintro e w5 ⟨⟨xo, xc, rfl, hxs, hxn, _, _⟩, b5⟩
  have HXS := hide hxs
  replace j0 := cell_later b5 j0
  replace j1 := cell_later b5 j1
  replace j2 := cell_later b5 j2
  replace j3 := cell_later b5 j3
  replace HB := hide (HB.out.trans (b5.mono HB.out.size))
  clear HREC b5 hxs hxn
  have HREF := hide (RecordsOf_any inp w5 (by omega))
  unfold RecPostR at HREF
  rw [hrf, hrl] at HREF
  clear hrf hrl
  go_wp2_with fail
  refine HREF.out.mono ?_
  rintro e w6 ⟨⟨yo, yc, rfl, hyo⟩, b6⟩
  have hyl : (rl.map tx).length = rl.length := List.length_map ..
  have HYS : Hid (Sl 1 encS w6 yo (rl.map tx)) := by rw [← hyl] at hyo; exact hyo.sl encS_len
  have HXS6 := hide (HXS.out.later b6 (Nat.le_refl _))
  replace j0 := cell_later b6 j0
  replace j1 := cell_later b6 j1
  replace j2 := cell_later b6 j2
  replace j3 := cell_later b6 j3
  replace HB := hide (HB.out.trans (b6.mono HB.out.size))
  clear HREF b6 hyo HXS
  go_wp2_with fail
  refine (HSM.out rf _ hrn).mono ?_
  rintro e w7 ⟨rfl, rfl⟩
  have HTX := hide (SameTexts_refl xo yo xc yc (rl.map tx) w6 (by rw [hyl]; omega) HXS6.out HYS.out)
  rw [hyl] at HTX
  clear hyl HXS6 HYS
  go_wp2_with fail
  refine HTX.out.mono ?_
  rintro e w8 ⟨rfl, b8⟩
  replace j0 := cell_later b8 j0
  replace j1 := cell_later b8 j1
  replace j2 := cell_later b8 j2
  replace j3 := cell_later b8 j3
  replace HB := hide (HB.out.trans (b8.mono HB.out.size))
  clear HTX b8
  go_wp2_with fail
  refine (HJF.out _ HB.out).mono ?_
  rintro e w9 ⟨rfl, b9⟩
  replace j0 := cell_later b9 j0
  replace j1 := cell_later b9 j1
  replace j2 := cell_later b9 j2
  replace j3 := cell_later b9 j3
  replace HB := hide (HB.out.trans (b9.mono HB.out.size))
  clear HJF b9
  have HBF := hide fun w' (hb : Below W1.heap.size W1 w') => (HB1.out.trans (hb.mono HB1.out.size) : Below w.heap.size w w')
  by_cases h0 : jf = 0
  case neg =>
    have e0 : (jf == 0) = false := by rw [beq_eq_false_iff_ne]; exact h0
    have e1 : decide ((0 : Int) < jf) = true := by rw [decide_eq_true_eq]; omega
    have HNW := hide fun w' hb => HNF.out w' hb (.inl h0)
    rw [if_pos h0] at HNW
    have HSJ := hide fun w' => HSM.out jf w' hjn
    clear h0 HNF
    go_wp2_with fail
    refine (HNW.out _ HB.out).mono ?_
    rintro e w10 ⟨rfl, b10⟩
    replace HB := hide (HB.out.trans (b10.mono HB.out.size))
    clear HNW b10 j0 j1 j2 j3
    go_wp2_with fail
    refine (HSJ.out _).mono ?_
    rintro e w11 ⟨rfl, rfl⟩
    go_wp2
    go_ret
    exact ⟨rfl, HBF.out _ HB.out⟩
  subst h0
  by_cases h60 : 60 < lines.length
  · have g4 : decide ((60 : Int) < (lines.length : Int)) = true := by simp; omega
    have HNW := hide fun w' hb => HNF.out w' hb (.inr h60)
    rw [if_neg (by simp)] at HNW
    have HSJ := hide fun w' => HSM.out 2 w' (by decide)
    clear h60 HNF
    go_wp2_with fail
    refine (HNW.out _ HB.out).mono ?_
    rintro e w10 ⟨rfl, b10⟩
    replace HB := hide (HB.out.trans (b10.mono HB.out.size))
    clear HNW b10 j0 j1 j2 j3
    go_wp2_with fail
    refine (HSJ.out _).mono ?_
    rintro e w11 ⟨rfl, rfl⟩
    go_wp2
    go_ret
    exact ⟨rfl, HBF.out _ HB.out⟩
  have g4 : decide ((60 : Int) < (lines.length : Int)) = false := by simp; omega
  obtain ⟨d, hd⟩ := rules_deep (HRS.out W1 (Below.refl _ _)).2
  have HJA : Hid (∀ w', Below W1.heap.size W1 w' → JobAt w' ro rs d) := fun w' hb => ⟨(HRS.out w' hb).1, fun r hr => (hd r hr).later hb (Nat.le_refl _)⟩
  have HOK := hide (JobOk.of HJE.out)
  obtain ⟨many, hmany⟩ : ∃ many : Nat, slices = (many : Int) := ⟨slices.toNat, by have := HOK.out.slices; omega⟩
  subst hmany
  have hm4 : 1 ≤ many ∧ many ≤ 4 := by have := HOK.out.slices; omega
  have hrn4 : rs.length ≤ 4 := HOK.out.many.2
  have hl60 : lines.length ≤ 60 := by omega
  have HLI : Hid (∀ l ∈ lines, l.size ≤ 150) := fun l hl => by have := (lightTexts_of HLTX.out).2 l hl; omega
  have HNW := hide fun w' (hb : Below W1.heap.size W1 w') => MNew_run ro rc rs fold many early d lo lc lines w' (HJA.out w' hb) (by unfold maxLen; omega) (HLS.out w' hb) HN.out HJE.out hl60
  clear hd HNF HLTX h60 HRS
  go_wp2_with fail
  refine (HNW.out _ HB.out).mono ?_
  rintro e w10 ⟨⟨rv, rfl, hrv⟩, b10⟩
  obtain ⟨g0, rfl⟩ := hrv.ptr
  have HRV := hide hrv
  have HLO := hide HB.out.size
  have b10s := hide b10.size
  replace HB := hide (HB.out.trans (b10.mono HB.out.size))
  clear b10 hrv j0 j1 j2 j3
  clear g1 g2 g3 g4
  have HMK0 : Hid (MSt ro rc rs fold many early lines W1 w10 w9.heap.size 0 (fun q => w9.heap.size ≤ q ∧ q < w10.heap.size) (.pointer (some ⟨g0, 0, none⟩)) (.slice none 0 0) 0) :=
    ⟨HRV.out, b10s.out, HLO.out, fun q hq => ⟨Nat.le_trans HLO.out hq.1, hq.2⟩, by rw [List.take_zero]; exact Own.nil, fun q e => by simp [Value.ownBlock] at e, HB.out⟩
  have HBK := hide fun w' (hb : Below W1.heap.size W1 w') => HBJ.out.later hb
  have HGM := hide fun w' (hb : Below W1.heap.size W1 w') => (HGB.out w' hb).gm
  have HL5 : Hid (∀ l ∈ lines, l.size ≤ 500) := fun l hl => by have := HLI.out l hl; omega
  have HOKP := hide fun (n : Nat) => (okP_made (rs := rs.map RuleR.v) (fold := fold) (lines := lines.take n) (by rw [List.length_map]; exact hrn4) (by intro r hr; obtain ⟨x, hx, rfl⟩ := List.mem_map.1 hr; exact HOK.out.ok x hx) (by rw [List.length_take]; omega) (fun l hl => HLI.out l (List.mem_of_mem_take hl)))
  have HKEY := hide fun (n : Nat) => (madeL_ok (rs := rs.map RuleR.v) (by intro r hr; obtain ⟨x, hx, rfl⟩ := List.mem_map.1 hr; exact HOK.out.ok x hx) fold (lines := lines.take n) (fun l hl => HL5.out l (List.mem_of_mem_take hl)))
  have HTXP := hide fun (n : Nat) => (by
    have h1 := textP_small (madeL (rs.map RuleR.v) fold (lines.take n)) (fun p hp => by have := HKEY.out n p hp; exact ⟨by omega, this.2⟩)
    have h2 := madeL_len2 (rs.map RuleR.v) fold (by rw [List.length_map]; exact hrn4) (lines.take n) (fun l hl => HLI.out l (List.mem_of_mem_take hl))
    rw [List.length_take] at h2
    omega : (textP (madeL (rs.map RuleR.v) fold (lines.take n))).length ≤ 9000000)
  clear HRV HLO HB b10s HJI HJE
  go_wp2
  go_loopw [14, 15, 16, 17] (fun rv av mv iv wq => ∃ (B n k : Nat) (S : Nat → Prop), k ≤ st.length ∧ iv = .int .i64 k ∧ mv = .int .i64 n ∧ n ≤ lines.length ∧ Hid (MSt ro rc rs fold many early lines W1 wq B n S rv av n)) (fun _ _ _ iv _ => st.length - (intOf iv).toNat)
  case atStart => exact ⟨_, 0, 0, _, by omega, rfl, rfl, by omega, HMK0⟩
  case round =>
    clear HMK0
    obtain ⟨B, n, k, S, hk, rfl, rfl, hnl, HM⟩ := hrel
    obtain ⟨g, rfl⟩ := HM.out.run.ptr
    by_cases hlt : k < st.length
    · obtain ⟨sb, soff, s, rfl, hsw, hsk, d0⟩ := (HST.out _ HM.out.k).int hlt
      have hs := HSV.out s (List.mem_of_getElem? hsk)
      have f1 : (0 : Int) ≤ (k : Int) ∧ (k : Int) < (st.length : Int) := by omega
      obtain ⟨f1, f2⟩ := f1
      have hbase := HM.out.base
      have HST1 := hide (MStep_run d s wr HM.out.lo (fun w' hb => HGM.out w' (HM.out.k.trans (hb.mono hbase))) (fun w' hb => HJA.out w' (HM.out.k.trans (hb.mono hbase))) HOK.out HM.out.run HL5.out (by omega) hs.2)
      obtain ⟨n', hn'⟩ : ∃ n', min (n + s.toNat) lines.length = n' := ⟨_, rfl⟩
      rw [hn'] at HST1
      have HSK := hide hsk
      have hbs : sb < W1.heap.size ∨ True := .inr trivial
      clear hsw hbase hbs hsk
      go_wp2_with fail
      refine HST1.out.mono ?_
      rintro e w1 ⟨⟨rfl, hr1⟩, k1⟩
      have HM1 := hide (HM.out.step k1 hr1)
      obtain ⟨S1, hS1⟩ : ∃ S1, (fun q => (S q ∨ wr.heap.size ≤ q) ∧ q < w1.heap.size) = S1 := ⟨_, rfl⟩
      rw [hS1] at HM1
      obtain ⟨ov, hov⟩ : ∃ ov, decide (n' = lines.length) = ov := ⟨_, rfl⟩
      rw [hov]
      have HOV := hide hov
      clear HST1 hr1 k1 HM d0 hS1 hov
      go_wp2
      go_loopw [15, 16, 19] (fun av mv jv wq => ∃ (j m : Nat), jv = .int .i64 j ∧ mv = .int .i64 m ∧ Hid (m = n + j) ∧ m ≤ lines.length ∧ j ≤ s.toNat ∧ Hid (MSt ro rc rs fold many early lines W1 wq B n' S1 (.pointer (some ⟨g, 0, none⟩)) av m)) (fun _ mv _ _ => lines.length - (intOf mv).toNat)
      case atStart => exact ⟨0, n, rfl, rfl, rfl, hnl, by omega, HM1⟩
      case round =>
        clear HM1
        rename_i wr0 _
        obtain ⟨j, m, rfl, rfl, hmj, hml, hjs, HM⟩ := hrel
        obtain ⟨sb', soff', s', e5, hsw5, hsk5, d5⟩ := (HST.out _ HM.out.k).int hlt
        cases e5
        rw [HSK.out] at hsk5
        cases hsk5
        have f1' : (0 : Int) ≤ (k : Int) ∧ (k : Int) < (st.length : Int) := by omega
        obtain ⟨f1', f2'⟩ := f1'
        obtain ⟨cb, hcb⟩ : ∃ cb, decide ((j : Int) < s ∧ m < lines.length) = cb := ⟨_, rfl⟩
        go_upto_region 23 with (fail)
        go_cut [120] from 109 to 120 (fun v wd => v = .bool cb ∧ wd = wr)
        case first =>
          by_cases hj1 : (j : Int) < s
          · have e1 : decide ((j : Int) < s) = true := by rw [decide_eq_true_eq]; exact hj1
            by_cases hm1 : m < lines.length
            · have e2 : decide (m < lines.length) = true := by rw [decide_eq_true_eq]; exact hm1
              have e3 : decide ((m : Int) < (lines.length : Int)) = true := by rw [decide_eq_true_eq]; omega
              have HCB : Hid (cb = true) := by show _ = _; rw [← hcb, decide_eq_true_eq]; exact ⟨hj1, hm1⟩
              clear hcb hj1 hm1
              go_wp2
              go_meet
              exact ⟨by rw [HCB.out], rfl⟩
            · have e2 : decide (m < lines.length) = false := by rw [decide_eq_false_iff_not]; exact hm1
              have e3 : decide ((m : Int) < (lines.length : Int)) = false := by rw [decide_eq_false_iff_not]; omega
              have HCB : Hid (cb = false) := by show _ = _; rw [← hcb, decide_eq_false_iff_not]; exact fun h => hm1 h.2
              clear hcb hj1 hm1
              go_wp2
              go_meet
              exact ⟨by rw [HCB.out], rfl⟩
          · have e1 : decide ((j : Int) < s) = false := by rw [decide_eq_false_iff_not]; exact hj1
            have HCB : Hid (cb = false) := by show _ = _; rw [← hcb, decide_eq_false_iff_not]; exact fun h => hj1 h.1
            clear hcb hj1
            go_wp2
            go_meet
            exact ⟨by rw [HCB.out], rfl⟩
        case rest =>
        obtain ⟨rfl, hww⟩ := hcut
        subst hww
        obtain ⟨wr, rfl⟩ : ∃ wz, wz = wc := ⟨_, rfl⟩
        clear d5 f1' f2'
        cases cb with
        | true =>
          have HC := hide (of_decide_eq_true hcb)
          clear hcb hsw5
          go_upto_block 3 with (fail)
          refine MapSays_in HM.out HC.out.2 hl60 HOK.out HBK.out HGM.out HJA.out HLS.out HLI.out _ _ _ _ _ _ _ _ _ _ _ _ _ _ _ _ _ _ _ _ _ _ _ _ _ _ _ _ _ _ _ _ _ _ _ _ _ _ _ _ _ _ _ _ _ _ _ _ _ _ _ _ _ _ _ _ _ _ _ _ _ _ _ _ _ _ _ _ _ _ _ _ _ _ _ _ _ _ _ _ _ _ _ _ _ _ _ _ _ _ _ _ _ _ _ _ _ _ _ _ _ _ _ _ _ _ _ _ _ _ _ _ _ _ _ _ _ _ _ _ _ _ _ _ _ _ _ _ _ _ _ _ _ _ _ _ _ _ _ _ _ _ _ _ _ _ _ _ _ _ _ _ _ _ _ _ _ _ _ _ _ _ _ _ _ _ _ _ _ _ _ _ _ _ _ _ _ _ _ _ _ _ _ _ _ _ _ _ _ _ _ _ ?_
          intro v15 v20 v123 v124 v125 v126 v127 v128 v129 v130 v131 v132 v133 v134 v135 v136 v137 v138 v139 v140 v141 v142 w5 hm5
          have HM5 := hide hm5
          have hjs5 : j + 1 ≤ s.toNat := by have := HC.out.1; omega
          have hml5 : m + 1 ≤ lines.length := HC.out.2
          have HMS : Hid (lines.length - (m + 1) < lines.length - m) := by have := HC.out.2; show _ < _; omega
          clear hm5 HM HC
          go_wp2
          go_roundw
          case rel => exact ⟨j + 1, m + 1, by go_num, by go_num, (by have h := hmj.out; show _ = _; omega), hml5, hjs5, HM5⟩
          case measure => (have h1 := HMS.out; simp [intOf]; omega)
        | false =>
          have hc := of_decide_eq_false hcb
          clear hcb
          have hmn : m = n' := by
            have := hmj.out
            rcases Classical.not_and_iff_not_or_not.1 hc with h | h <;> omega
          obtain rfl := hmn
          clear hc hmj hjs hn' hsw5
          go_upto_region 30 with (fail)
          obtain ⟨aa, ac, hav⟩ := id HM.out.all.1
          subst hav
          have hbk := HBK.out _ HM.out.k
          have j0 := hbk.get (j := 0) rfl
          have j1 := hbk.get (j := 1) rfl
          have j2 := hbk.get (j := 2) rfl
          have j3 := hbk.get (j := 3) rfl
          have HAS := hide (HM.out.all.sl encP_len)
          have hq1 : (m == lines.length) = ov := by rw [← HOV.out]; rfl
          have hq2 : ((m : Int) == (lines.length : Int)) = ov := by
            rw [← HOV.out]
            by_cases h : m = lines.length
            · simp [h]
            · have : ¬ (m : Int) = (lines.length : Int) := by omega
              simp [h, this]
          have hqq : (ov != ov) = false := by simp
          have HMR := hide HM.out.run
          have hml0 : (madeL (rs.map RuleR.v) fold (lines.take m)).length ≤ 100000 := (HOKP.out m).1
          have HCL := hide (cutP_rows fold many early (madeL (rs.map RuleR.v) fold (lines.take m)) hml0)
          have HMK9 : Hid (∀ p ∈ madeL (rs.map RuleR.v) fold (lines.take m), p.1.size ≤ maxLen) := fun p hp => Nat.le_trans (HKEY.out m p hp).1 (by unfold maxLen; omega)
          have HSZ := hide HM.out.k.size
          clear hbk
          generalize hML : madeL (rs.map RuleR.v) fold (lines.take m) = ML at *
          have HML := hide hML
          clear hML
          go_cut [163] from 143 to 163 (fun v wd => v = .bool false ∧ Hid (Below wr.heap.size wr wd))
          case first =>
            refine wp_region_noPanic ?_
            refine wp_region_heldE_drew (S := (fun w' => Below wr.heap.size wr w')) (E := [20]) (by kernel_rfl) ?_ (fun hHeld => ?_)
            · (first | exact (Below.refl _ _).drew | exact hHeld.trans (b1.mono hHeld.size) | exact hHeld.trans (b2.mono hHeld.size) | exact hHeld.trans (b3.mono hHeld.size) | exact hHeld)
            try dsimp only [List.size_toArray, List.length_cons, List.length_nil, Nat.reduceAdd]
            refine wpAnyHE_takeP (i := 0) (oi := { dst := some 143, op := Op.move (Operand.tmp 18), type := 4, pos := "law.go:296", after := #[], guard := none }) (v := ?_) rfl (by kernel_rfl) (by kernel_rfl) (by kernel_rfl) (fun _ _ _ h => h) (Or.inl ⟨by rfl, ?_⟩) ?_
            rotate_left
            · (intro w _; go_simp; try with_reducible rfl)
            try simp only [Act.put, List.setIfInBounds_toArray, List.set_cons_zero, List.set_cons_succ]
            refine wpAnyHE_takeP (i := 1) (oi := { dst := some 144, op := Op.move (Operand.tmp 16), type := 3, pos := "law.go:296", after := #[], guard := none }) (v := ?_) rfl (by kernel_rfl) (by kernel_rfl) (by kernel_rfl) (fun _ _ _ h => h) (Or.inl ⟨by rfl, ?_⟩) ?_
            rotate_left
            · (intro w _; go_simp; try with_reducible rfl)
            try simp only [Act.put, List.setIfInBounds_toArray, List.set_cons_zero, List.set_cons_succ]
            refine wpAnyHE_takeP (i := 2) (oi := { dst := some 145, op := Op.move (Operand.tmp 2), type := 42, pos := "law.go:296", after := #[], guard := none }) (v := ?_) rfl (by kernel_rfl) (by kernel_rfl) (by kernel_rfl) (fun _ _ _ h => h) (Or.inl ⟨by rfl, ?_⟩) ?_
            rotate_left
            · (intro w _; go_simp; try with_reducible rfl)
            try simp only [Act.put, List.setIfInBounds_toArray, List.set_cons_zero, List.set_cons_succ]
            refine wpAnyHE_takeP (i := 3) (oi := { dst := some 146, op := Op.call { callee := Callee.builtin Builtin.len, args := #[Operand.tmp 145], argTypes := #[42] }, type := 3, pos := "law.go:296", after := #[{ on := 2, ground := Ground.data }], guard := none }) (v := ?_) rfl (by kernel_rfl) (by kernel_rfl) (by kernel_rfl) (fun _ _ _ h => h) (Or.inl ⟨by rfl, ?_⟩) ?_
            rotate_left
            · (intro w _; go_simp; try with_reducible rfl)
            try simp only [Act.put, List.setIfInBounds_toArray, List.set_cons_zero, List.set_cons_succ]
            refine wpAnyHE_takeP (i := 4) (oi := { dst := some 147, op := Op.binOp BinOp.eql 3 (Operand.tmp 144) (Operand.tmp 146) 3, type := 4, pos := "law.go:296", after := #[{ on := 1, ground := Ground.data }, { on := 3, ground := Ground.data }], guard := none }) (v := ?_) rfl (by kernel_rfl) (by kernel_rfl) (by kernel_rfl) (fun _ _ _ h => h) (Or.inl ⟨by rfl, ?_⟩) ?_
            rotate_left
            · (intro w _; go_simp; try with_reducible rfl)
            try simp only [Act.put, List.setIfInBounds_toArray, List.set_cons_zero, List.set_cons_succ]
            refine wpAnyHE_takeP (i := 5) (oi := { dst := some 148, op := Op.binOp BinOp.neq 4 (Operand.tmp 143) (Operand.tmp 147) 4, type := 4, pos := "law.go:296", after := #[{ on := 0, ground := Ground.data }, { on := 4, ground := Ground.data }], guard := none }) (v := ?_) rfl (by kernel_rfl) (by kernel_rfl) (by kernel_rfl) (fun _ _ _ h => h) (Or.inl ⟨by rfl, ?_⟩) ?_
            rotate_left
            · (intro w _; go_simp; try with_reducible rfl)
            try simp only [Act.put, List.setIfInBounds_toArray, List.set_cons_zero, List.set_cons_succ]
            refine wpAnyHE_takeP (i := 6) (oi := { dst := some 149, op := Op.move (Operand.tmp 148), type := 4, pos := "law.go:296", after := #[{ on := 5, ground := Ground.data }], guard := none }) (v := ?_) rfl (by kernel_rfl) (by kernel_rfl) (by kernel_rfl) (fun _ _ _ h => h) (Or.inl ⟨by rfl, ?_⟩) ?_
            rotate_left
            · (intro w _; go_simp; try with_reducible rfl)
            try simp only [Act.put, List.setIfInBounds_toArray, List.set_cons_zero, List.set_cons_succ]
            refine wpAnyHE_takeP (i := 7) (oi := { dst := some 150, op := Op.move (Operand.tmp 14), type := 50, pos := "law.go:296", after := #[{ on := 6, ground := Ground.guard }], guard := some (6, false) }) (v := ?_) rfl (by kernel_rfl) (by kernel_rfl) (by kernel_rfl) (fun _ _ _ h => h) (Or.inl ⟨by rfl, ?_⟩) ?_
            rotate_left
            · (intro w _; go_simp; try with_reducible rfl)
            try simp only [Act.put, List.setIfInBounds_toArray, List.set_cons_zero, List.set_cons_succ]
            refine wpAnyHE_takeP (i := 9) (oi := { dst := some 152, op := Op.move (Operand.tmp 16), type := 3, pos := "law.go:296", after := #[{ on := 6, ground := Ground.guard }], guard := some (6, false) }) (v := ?_) rfl (by kernel_rfl) (by kernel_rfl) (by kernel_rfl) (fun _ _ _ h => h) (Or.inl ⟨by rfl, ?_⟩) ?_
            rotate_left
            · (intro w _; go_simp; try with_reducible rfl)
            try simp only [Act.put, List.setIfInBounds_toArray, List.set_cons_zero, List.set_cons_succ]
            refine wpAnyHE_ready (rs := [8]) (by kernel_rfl) (by simp) ?_
            refine AllReadyE.cons (o := { dst := some 151, op := Op.call { callee := Callee.value (Operand.func 26), args := #[Operand.tmp 150], argTypes := #[50] }, type := 3, pos := "law.go:296", after := #[{ on := 7, ground := Ground.data }, { on := 6, ground := Ground.chain }, { on := 6, ground := Ground.guard }], guard := some (6, false) }) rfl (fun KH hKH => ?_) AllReadyE.nil
            go_simp
            (go_at_call 26; refine (MAt_run _ (HMR.out.later hHeld)).mono ?_; rintro e w1 ⟨rfl, rfl⟩)
            try go_wp2_with fail
            refine hKH.out _ _ ?_ (fun hNew => ?_)
            · (first | exact (Below.refl _ _).drew | exact hHeld.trans (b1.mono hHeld.size) | exact hHeld.trans (b2.mono hHeld.size) | exact hHeld.trans (b3.mono hHeld.size) | exact hHeld)
            clear hKH KH hHeld
            have hHeld := hNew
            clear hNew
            try simp only [Act.put, List.setIfInBounds_toArray, List.set_cons_zero, List.set_cons_succ]
            refine wpAnyHE_takeP (i := 10) (oi := { dst := some 153, op := Op.binOp BinOp.neq 3 (Operand.tmp 151) (Operand.tmp 152) 3, type := 4, pos := "law.go:296", after := #[{ on := 8, ground := Ground.data }, { on := 9, ground := Ground.data }, { on := 6, ground := Ground.guard }], guard := some (6, false) }) (v := ?_) rfl (by kernel_rfl) (by kernel_rfl) (by kernel_rfl) (fun _ _ _ h => h) (Or.inl ⟨by rfl, ?_⟩) ?_
            rotate_left
            · (intro w _; go_simp; try with_reducible rfl)
            try simp only [Act.put, List.setIfInBounds_toArray, List.set_cons_zero, List.set_cons_succ]
            refine wpAnyHE_takeP (i := 11) (oi := { dst := some 154, op := Op.pick (Operand.tmp 149) (Operand.const (Value.bool true)) (Operand.tmp 153), type := 4, pos := "law.go:296", after := #[{ on := 6, ground := Ground.data }, { on := 10, ground := Ground.data }], guard := none }) (v := ?_) rfl (by kernel_rfl) (by kernel_rfl) (by kernel_rfl) (fun _ _ _ h => h) (Or.inl ⟨by rfl, ?_⟩) ?_
            rotate_left
            · (intro w _; go_simp; try with_reducible rfl)
            try simp only [Act.put, List.setIfInBounds_toArray, List.set_cons_zero, List.set_cons_succ]
            refine wpAnyHE_takeP (i := 12) (oi := { dst := some 155, op := Op.move (Operand.tmp 154), type := 4, pos := "law.go:296", after := #[{ on := 11, ground := Ground.data }, { on := 8, ground := Ground.chain }], guard := none }) (v := ?_) rfl (by kernel_rfl) (by kernel_rfl) (by kernel_rfl) (fun _ _ _ h => h) (Or.inl ⟨by rfl, ?_⟩) ?_
            rotate_left
            · (intro w _; go_simp; try with_reducible rfl)
            try simp only [Act.put, List.setIfInBounds_toArray, List.set_cons_zero, List.set_cons_succ]
            refine wpAnyHE_takeP (i := 13) (oi := { dst := some 156, op := Op.move (Operand.tmp 14), type := 50, pos := "law.go:296", after := #[{ on := 12, ground := Ground.guard }], guard := some (12, false) }) (v := ?_) rfl (by kernel_rfl) (by kernel_rfl) (by kernel_rfl) (fun _ _ _ h => h) (Or.inl ⟨by rfl, ?_⟩) ?_
            rotate_left
            · (intro w _; go_simp; try with_reducible rfl)
            try simp only [Act.put, List.setIfInBounds_toArray, List.set_cons_zero, List.set_cons_succ]
            refine wpAnyHE_takeP (i := 16) (oi := { dst := some 159, op := Op.move (Operand.tmp 15), type := 53, pos := "law.go:296", after := #[{ on := 12, ground := Ground.guard }], guard := some (12, false) }) (v := ?_) rfl (by kernel_rfl) (by kernel_rfl) (by kernel_rfl) (fun _ _ _ h => h) (Or.inl ⟨by rfl, ?_⟩) ?_
            rotate_left
            · (intro w _; go_simp; try with_reducible rfl)
            try simp only [Act.put, List.setIfInBounds_toArray, List.set_cons_zero, List.set_cons_succ]
            refine wpAnyHE_take (i := 15) (oi := { dst := some 158, op := Op.load 24 (Operand.tmp 5), type := 24, pos := "law.go:296", after := #[{ on := 12, ground := Ground.guard }], guard := some (12, false) }) (v := ?_) [[19, 18, 17, 15]] rfl (by kernel_rfl) (by kernel_rfl) (by kernel_rfl) (by kernel_rfl) (by kernel_rfl) (fun _ _ _ h => h) (Or.inl ⟨by rfl, ?_⟩) (by assumption) ?_
            rotate_left
            · (intro w hSw; (try dsimp only at hSw); (have t0 := cell_later hSw j0; have t1 := cell_later hSw j1; have t2 := cell_later hSw j2; have t3 := cell_later hSw j3); go_simp; try with_reducible rfl)
            try simp only [Act.put, List.setIfInBounds_toArray, List.set_cons_zero, List.set_cons_succ]
            refine wpAnyHE_ready (rs := [14]) (by kernel_rfl) (by simp) ?_
            refine AllReadyE.cons (o := { dst := some 157, op := Op.call { callee := Callee.value (Operand.func 28), args := #[Operand.tmp 156], argTypes := #[50] }, type := 59, pos := "law.go:296", after := #[{ on := 13, ground := Ground.data }, { on := 12, ground := Ground.chain }, { on := 12, ground := Ground.guard }], guard := some (12, false) }) rfl (fun KH hKH => ?_) AllReadyE.nil
            go_simp
            (go_at_call 28; refine (MSlices_run _ (HMR.out.later hHeld) HOK.out HL5.out (by omega)).mono ?_; rintro e w1 ⟨o1, vs1, rfl, hx1, b1⟩; rw [HML.out] at hx1)
            try go_wp2_with fail
            refine hKH.out _ _ ?_ (fun hNew => ?_)
            · (first | exact (Below.refl _ _).drew | exact hHeld.trans (b1.mono hHeld.size) | exact hHeld.trans (b2.mono hHeld.size) | exact hHeld.trans (b3.mono hHeld.size) | exact hHeld)
            clear hKH KH hHeld
            have hHeld := hNew
            clear hNew
            try simp only [Act.put, List.setIfInBounds_toArray, List.set_cons_zero, List.set_cons_succ]
            refine wpAnyHE_ready (rs := [17]) (by kernel_rfl) (by simp) ?_
            refine AllReadyE.cons (o := { dst := some 160, op := Op.call { callee := Callee.value (Operand.func 29), args := #[Operand.tmp 158, Operand.tmp 159], argTypes := #[24, 53] }, type := 59, pos := "law.go:296", after := #[{ on := 15, ground := Ground.data }, { on := 16, ground := Ground.data }, { on := 14, ground := Ground.chain }, { on := 12, ground := Ground.guard }], guard := some (12, false) }) rfl (fun KH hKH => ?_) AllReadyE.nil
            go_simp
            (go_at_call 29; refine (RefCut_any ro rs.length rc fold many early aa ac ML _ (by omega) (by omega) HMK9.out (HAS.out.later hHeld (Nat.le_refl _))).mono ?_; rintro e w2 ⟨o2, vs2, rfl, hx2, b2⟩)
            try go_wp2_with fail
            refine hKH.out _ _ ?_ (fun hNew => ?_)
            · (first | exact (Below.refl _ _).drew | exact hHeld.trans (b1.mono hHeld.size) | exact hHeld.trans (b2.mono hHeld.size) | exact hHeld.trans (b3.mono hHeld.size) | exact hHeld)
            clear hKH KH hHeld
            have hHeld := hNew
            clear hNew
            try simp only [Act.put, List.setIfInBounds_toArray, List.set_cons_zero, List.set_cons_succ]
            refine wpAnyHE_ready (rs := [18]) (by kernel_rfl) (by simp) ?_
            refine AllReadyE.cons (o := { dst := some 161, op := Op.call { callee := Callee.value (Operand.func 27), args := #[Operand.tmp 157, Operand.tmp 160], argTypes := #[59, 59] }, type := 4, pos := "law.go:296", after := #[{ on := 14, ground := Ground.data }, { on := 17, ground := Ground.data }, { on := 17, ground := Ground.chain }, { on := 12, ground := Ground.guard }], guard := some (12, false) }) rfl (fun KH hKH => ?_) AllReadyE.nil
            go_simp
            (go_at_call 27; refine (by first | exact SameSlices_refl _ _ o1 o2 many many many vs1 vs2 _ _ (hx1.later b2) hx2 HCL.out.1.symm (by omega) HCL.out.2 | exact SameSlices_refl _ _ o1 o2 many many many vs1 vs2 _ _ hx1 (hx2.later b1) HCL.out.1.symm (by omega) HCL.out.2 : Calls _ _ _ _ _).mono ?_; rintro e w3 ⟨rfl, b3⟩)
            try go_wp2_with fail
            refine hKH.out _ _ ?_ (fun hNew => ?_)
            · (first | exact (Below.refl _ _).drew | exact hHeld.trans (b1.mono hHeld.size) | exact hHeld.trans (b2.mono hHeld.size) | exact hHeld.trans (b3.mono hHeld.size) | exact hHeld)
            clear hKH KH hHeld
            have hHeld := hNew
            clear hNew
            try simp only [Act.put, List.setIfInBounds_toArray, List.set_cons_zero, List.set_cons_succ]
            refine wpAnyHE_ready (rs := [19]) (by kernel_rfl) (by simp) ?_
            refine AllReadyE.cons (o := { dst := some 162, op := Op.unOp UnOp.not 4 (Operand.tmp 161), type := 4, pos := "law.go:296", after := #[{ on := 18, ground := Ground.data }, { on := 12, ground := Ground.guard }], guard := some (12, false) }) rfl (fun KH hKH => ?_) AllReadyE.nil
            go_simp
            refine hKH.out _ _ ?_ (fun hNew => ?_)
            · (first | exact (Below.refl _ _).drew | exact hHeld.trans (b1.mono hHeld.size) | exact hHeld.trans (b2.mono hHeld.size) | exact hHeld.trans (b3.mono hHeld.size) | exact hHeld)
            clear hKH KH hHeld
            have hHeld := hNew
            clear hNew
            try simp only [Act.put, List.setIfInBounds_toArray, List.set_cons_zero, List.set_cons_succ]
            refine wpAnyHE_ready (rs := [20]) (by kernel_rfl) (by simp) ?_
            refine AllReadyE.consE (o := { dst := some 163, op := Op.pick (Operand.tmp 155) (Operand.const (Value.bool true)) (Operand.tmp 162), type := 4, pos := "law.go:296", after := #[{ on := 12, ground := Ground.data }, { on := 19, ground := Ground.data }], guard := none }) rfl (by kernel_rfl) (fun KH hKH => ?_) AllReadyE.nil
            have HBA := hide hHeld
            go_simp
            refine hKH.out _ _ ?_
            clear hKH KH
            try clear hHeld
            try simp only [Act.put, List.setIfInBounds_toArray, List.set_cons_zero, List.set_cons_succ]
            refine wpAnyHE_done (by kernel_rfl) ?_ _
            refine NoPanic.normal ?_
            go_wp2
            go_meet
            exact ⟨rfl, HBA⟩
          case rest =>
          obtain ⟨rfl, HBA⟩ := hcut
          obtain ⟨wd, rfl⟩ : ∃ wz, wz = wc := ⟨_, rfl⟩
          have HM2 := hide (HM.out.later HBA.out)
          replace j0 := cell_later HBA.out j0
          replace j1 := cell_later HBA.out j1
          replace j2 := cell_later HBA.out j2
          replace j3 := cell_later HBA.out j3
          clear HM HMR HAS HCL HMK9 HBA hq1 hq2 hqq HSZ hml0
          go_wp2_with fail
          refine (HNW.out wd HM2.out.k).mono ?_
          rintro e w5 ⟨⟨nv, rfl, hnv⟩, b5⟩
          obtain ⟨g5, rfl⟩ := hnv.ptr
          have HNV := hide hnv
          have HM5 := hide (HM2.out.later b5)
          have HSV5 := hide (MSave_run w5 (HGB.out w5 HM5.out.k).toGT HM5.out.run (HOKP.out m) (by omega))
          have HS5 := hide b5.size
          clear hnv b5 j0 j1 j2 j3
          go_wp2_with fail
          refine HSV5.out.mono ?_
          rintro e w6 ⟨rfl, b6⟩
          have HM6 := hide (HM5.out.later b6)
          have HNV6 := hide (HNV.out.later b6)
          have HLD := hide (MLoad_run w6 (HGB.out w6 HM6.out.k) (Nat.le_trans HS5.out b6.size) HNV6.out hml (by omega) (HOKP.out m) (HTXP.out m))
          have HS6 := hide b6.size
          have HMN := hide (HM6.out.newRun HNV6.out (Nat.le_trans HS5.out HS6.out) HM2.out.k.size (fun q hq => ⟨Nat.le_trans HM2.out.k.size hq.1, Nat.lt_of_lt_of_le hq.2 HS6.out⟩) (fun q e hq => by have := (HM2.out.all.lt q e).2; omega))
          clear HSV5 b6 HM5 HM6 HNV HNV6 HM2
          go_wp2_with fail
          refine HLD.out.mono ?_
          rintro e w7 ⟨⟨rfl, hr7⟩, k7⟩
          have HM7 := hide (HMN.out.step k7 hr7)
          clear HLD hr7 k7 HMN HS5 HS6
          go_wp2
          go_roundw
          case rel => exact ⟨_, m, k + 1, _, by omega, by go_num, rfl, hml, HM7⟩
          case measure => (simp [intOf]; try omega)
    · have g3 : decide (k < st.length) = false := by simpa using hlt
      have g4 : decide ((k : Int) < (st.length : Int)) = false := by simp; omega
      obtain ⟨aa, ac, hav⟩ := id HM.out.all.1
      subst hav
      have hbk := HBK.out _ HM.out.k
      have j0 := hbk.get (j := 0) rfl
      have j1 := hbk.get (j := 1) rfl
      have j2 := hbk.get (j := 2) rfl
      have j3 := hbk.get (j := 3) rfl
      have HAS := hide (HM.out.all.sl encP_len)
      have HMR := hide HM.out.run
      have hml0 : (madeL (rs.map RuleR.v) fold (lines.take n)).length ≤ 100000 := (HOKP.out n).1
      have HCL := hide (cutP_rows fold many early (madeL (rs.map RuleR.v) fold (lines.take n)) hml0)
      have HMK9 : Hid (∀ p ∈ madeL (rs.map RuleR.v) fold (lines.take n), p.1.size ≤ maxLen) := fun p hp => Nat.le_trans (HKEY.out n p hp).1 (by unfold maxLen; omega)
      have HBW := hide (fun w' (hb : Below wr.heap.size wr w') => HBF.out w' (HM.out.k.trans (hb.mono HM.out.k.size)))
      clear hbk HM
      generalize hML : madeL (rs.map RuleR.v) fold (lines.take n) = ML at *
      have HML := hide hML
      clear hML
      go_upto_region 36 with (fail)
      refine wp_region_noPanic ?_
      refine wp_region_heldE_drew (S := (fun w' => Below wr.heap.size wr w')) (E := [12]) (by kernel_rfl) ?_ (fun hHeld => ?_)
      · (first | exact (Below.refl _ _).drew | exact hHeld.trans (b1.mono hHeld.size) | exact hHeld.trans (b2.mono hHeld.size) | exact hHeld.trans (b3.mono hHeld.size) | exact hHeld)
      try dsimp only [List.size_toArray, List.length_cons, List.length_nil, Nat.reduceAdd]
      refine wpAnyHE_takeP (i := 0) (oi := { dst := some 184, op := Op.move (Operand.tmp 14), type := 50, pos := "law.go:305", after := #[], guard := none }) (v := ?_) rfl (by kernel_rfl) (by kernel_rfl) (by kernel_rfl) (fun _ _ _ h => h) (Or.inl ⟨by rfl, ?_⟩) ?_
      rotate_left
      · (intro w _; go_simp; try with_reducible rfl)
      try simp only [Act.put, List.setIfInBounds_toArray, List.set_cons_zero, List.set_cons_succ]
      refine wpAnyHE_takeP (i := 2) (oi := { dst := some 186, op := Op.move (Operand.tmp 16), type := 3, pos := "law.go:305", after := #[], guard := none }) (v := ?_) rfl (by kernel_rfl) (by kernel_rfl) (by kernel_rfl) (fun _ _ _ h => h) (Or.inl ⟨by rfl, ?_⟩) ?_
      rotate_left
      · (intro w _; go_simp; try with_reducible rfl)
      try simp only [Act.put, List.setIfInBounds_toArray, List.set_cons_zero, List.set_cons_succ]
      refine wpAnyHE_ready (rs := [1]) (by kernel_rfl) (by simp) ?_
      refine AllReadyE.cons (o := { dst := some 185, op := Op.call { callee := Callee.value (Operand.func 26), args := #[Operand.tmp 184], argTypes := #[50] }, type := 3, pos := "law.go:305", after := #[{ on := 0, ground := Ground.data }], guard := none }) rfl (fun KH hKH => ?_) AllReadyE.nil
      go_simp
      (go_at_call 26; refine (MAt_run _ (HMR.out.later hHeld)).mono ?_; rintro e w1 ⟨rfl, rfl⟩)
      try go_wp2_with fail
      refine hKH.out _ _ ?_ (fun hNew => ?_)
      · (first | exact (Below.refl _ _).drew | exact hHeld.trans (b1.mono hHeld.size) | exact hHeld.trans (b2.mono hHeld.size) | exact hHeld.trans (b3.mono hHeld.size) | exact hHeld)
      clear hKH KH hHeld
      have hHeld := hNew
      clear hNew
      try simp only [Act.put, List.setIfInBounds_toArray, List.set_cons_zero, List.set_cons_succ]
      refine wpAnyHE_takeP (i := 3) (oi := { dst := some 187, op := Op.binOp BinOp.eql 3 (Operand.tmp 185) (Operand.tmp 186) 3, type := 4, pos := "law.go:305", after := #[{ on := 1, ground := Ground.data }, { on := 2, ground := Ground.data }], guard := none }) (v := ?_) rfl (by kernel_rfl) (by kernel_rfl) (by kernel_rfl) (fun _ _ _ h => h) (Or.inl ⟨by rfl, ?_⟩) ?_
      rotate_left
      · (intro w _; go_simp; try with_reducible rfl)
      try simp only [Act.put, List.setIfInBounds_toArray, List.set_cons_zero, List.set_cons_succ]
      refine wpAnyHE_takeP (i := 4) (oi := { dst := some 188, op := Op.move (Operand.tmp 187), type := 4, pos := "law.go:305", after := #[{ on := 3, ground := Ground.data }, { on := 1, ground := Ground.chain }], guard := none }) (v := ?_) rfl (by kernel_rfl) (by kernel_rfl) (by kernel_rfl) (fun _ _ _ h => h) (Or.inl ⟨by rfl, ?_⟩) ?_
      rotate_left
      · (intro w _; go_simp; try with_reducible rfl)
      try simp only [Act.put, List.setIfInBounds_toArray, List.set_cons_zero, List.set_cons_succ]
      refine wpAnyHE_takeP (i := 5) (oi := { dst := some 189, op := Op.move (Operand.tmp 14), type := 50, pos := "law.go:305", after := #[{ on := 4, ground := Ground.guard }], guard := some (4, true) }) (v := ?_) rfl (by kernel_rfl) (by kernel_rfl) (by kernel_rfl) (fun _ _ _ h => h) (Or.inl ⟨by rfl, ?_⟩) ?_
      rotate_left
      · (intro w _; go_simp; try with_reducible rfl)
      try simp only [Act.put, List.setIfInBounds_toArray, List.set_cons_zero, List.set_cons_succ]
      refine wpAnyHE_takeP (i := 8) (oi := { dst := some 192, op := Op.move (Operand.tmp 15), type := 53, pos := "law.go:305", after := #[{ on := 4, ground := Ground.guard }], guard := some (4, true) }) (v := ?_) rfl (by kernel_rfl) (by kernel_rfl) (by kernel_rfl) (fun _ _ _ h => h) (Or.inl ⟨by rfl, ?_⟩) ?_
      rotate_left
      · (intro w _; go_simp; try with_reducible rfl)
      try simp only [Act.put, List.setIfInBounds_toArray, List.set_cons_zero, List.set_cons_succ]
      refine wpAnyHE_take (i := 7) (oi := { dst := some 191, op := Op.load 24 (Operand.tmp 5), type := 24, pos := "law.go:305", after := #[{ on := 4, ground := Ground.guard }], guard := some (4, true) }) (v := ?_) [[7]] rfl (by kernel_rfl) (by kernel_rfl) (by kernel_rfl) (by kernel_rfl) (by kernel_rfl) (fun _ _ _ h => h) (Or.inl ⟨by rfl, ?_⟩) (by assumption) ?_
      rotate_left
      · (intro w hSw; (try dsimp only at hSw); (have t0 := cell_later hSw j0; have t1 := cell_later hSw j1; have t2 := cell_later hSw j2; have t3 := cell_later hSw j3); go_simp; try with_reducible rfl)
      try simp only [Act.put, List.setIfInBounds_toArray, List.set_cons_zero, List.set_cons_succ]
      refine wpAnyHE_ready (rs := [6]) (by kernel_rfl) (by simp) ?_
      refine AllReadyE.cons (o := { dst := some 190, op := Op.call { callee := Callee.value (Operand.func 28), args := #[Operand.tmp 189], argTypes := #[50] }, type := 59, pos := "law.go:305", after := #[{ on := 5, ground := Ground.data }, { on := 4, ground := Ground.chain }, { on := 4, ground := Ground.guard }], guard := some (4, true) }) rfl (fun KH hKH => ?_) AllReadyE.nil
      go_simp
      (go_at_call 28; refine (MSlices_run _ (HMR.out.later hHeld) HOK.out HL5.out (by omega)).mono ?_; rintro e w1 ⟨o1, vs1, rfl, hx1, b1⟩; rw [HML.out] at hx1)
      try go_wp2_with fail
      refine hKH.out _ _ ?_ (fun hNew => ?_)
      · (first | exact (Below.refl _ _).drew | exact hHeld.trans (b1.mono hHeld.size) | exact hHeld.trans (b2.mono hHeld.size) | exact hHeld.trans (b3.mono hHeld.size) | exact hHeld)
      clear hKH KH hHeld
      have hHeld := hNew
      clear hNew
      try simp only [Act.put, List.setIfInBounds_toArray, List.set_cons_zero, List.set_cons_succ]
      refine wpAnyHE_ready (rs := [9]) (by kernel_rfl) (by simp) ?_
      refine AllReadyE.cons (o := { dst := some 193, op := Op.call { callee := Callee.value (Operand.func 29), args := #[Operand.tmp 191, Operand.tmp 192], argTypes := #[24, 53] }, type := 59, pos := "law.go:305", after := #[{ on := 7, ground := Ground.data }, { on := 8, ground := Ground.data }, { on := 6, ground := Ground.chain }, { on := 4, ground := Ground.guard }], guard := some (4, true) }) rfl (fun KH hKH => ?_) AllReadyE.nil
      go_simp
      (go_at_call 29; refine (RefCut_any ro rs.length rc fold many early aa ac ML _ (by omega) (by omega) HMK9.out (HAS.out.later hHeld (Nat.le_refl _))).mono ?_; rintro e w2 ⟨o2, vs2, rfl, hx2, b2⟩)
      try go_wp2_with fail
      refine hKH.out _ _ ?_ (fun hNew => ?_)
      · (first | exact (Below.refl _ _).drew | exact hHeld.trans (b1.mono hHeld.size) | exact hHeld.trans (b2.mono hHeld.size) | exact hHeld.trans (b3.mono hHeld.size) | exact hHeld)
      clear hKH KH hHeld
      have hHeld := hNew
      clear hNew
      try simp only [Act.put, List.setIfInBounds_toArray, List.set_cons_zero, List.set_cons_succ]
      refine wpAnyHE_ready (rs := [10]) (by kernel_rfl) (by simp) ?_
      refine AllReadyE.cons (o := { dst := some 194, op := Op.call { callee := Callee.value (Operand.func 27), args := #[Operand.tmp 190, Operand.tmp 193], argTypes := #[59, 59] }, type := 4, pos := "law.go:305", after := #[{ on := 6, ground := Ground.data }, { on := 9, ground := Ground.data }, { on := 9, ground := Ground.chain }, { on := 4, ground := Ground.guard }], guard := some (4, true) }) rfl (fun KH hKH => ?_) AllReadyE.nil
      go_simp
      (go_at_call 27; refine (SameSlices_refl _ _ o1 o2 many many many vs1 vs2 _ _ (hx1.later b2) hx2 HCL.out.1.symm (by omega) HCL.out.2).mono ?_; rintro e w3 ⟨rfl, b3⟩)
      try go_wp2_with fail
      refine hKH.out _ _ ?_ (fun hNew => ?_)
      · (first | exact (Below.refl _ _).drew | exact hHeld.trans (b1.mono hHeld.size) | exact hHeld.trans (b2.mono hHeld.size) | exact hHeld.trans (b3.mono hHeld.size) | exact hHeld)
      clear hKH KH hHeld
      have hHeld := hNew
      clear hNew
      try simp only [Act.put, List.setIfInBounds_toArray, List.set_cons_zero, List.set_cons_succ]
      refine wpAnyHE_ready (rs := [11]) (by kernel_rfl) (by simp) ?_
      refine AllReadyE.cons (o := { dst := some 195, op := Op.pick (Operand.tmp 188) (Operand.tmp 194) (Operand.const (Value.bool false)), type := 4, pos := "law.go:305", after := #[{ on := 4, ground := Ground.data }, { on := 10, ground := Ground.data }], guard := none }) rfl (fun KH hKH => ?_) AllReadyE.nil
      go_simp
      refine hKH.out _ _ ?_ (fun hNew => ?_)
      · (first | exact (Below.refl _ _).drew | exact hHeld.trans (b1.mono hHeld.size) | exact hHeld.trans (b2.mono hHeld.size) | exact hHeld.trans (b3.mono hHeld.size) | exact hHeld)
      clear hKH KH hHeld
      have hHeld := hNew
      clear hNew
      try simp only [Act.put, List.setIfInBounds_toArray, List.set_cons_zero, List.set_cons_succ]
      refine wpAnyHE_ready (rs := [12]) (by kernel_rfl) (by simp) ?_
      refine AllReadyE.consE (o := { dst := some 8, op := Op.assign (Operand.tmp 195), type := 4, pos := "law.go:305", after := #[{ on := 11, ground := Ground.data }, { on := 10, ground := Ground.chain }, { on := 0, ground := Ground.phase }, { on := 1, ground := Ground.phase }, { on := 2, ground := Ground.phase }, { on := 3, ground := Ground.phase }, { on := 4, ground := Ground.phase }, { on := 5, ground := Ground.phase }, { on := 6, ground := Ground.phase }, { on := 7, ground := Ground.phase }, { on := 8, ground := Ground.phase }, { on := 9, ground := Ground.phase }, { on := 10, ground := Ground.phase }, { on := 11, ground := Ground.phase }], guard := none }) rfl (by kernel_rfl) (fun KH hKH => ?_) AllReadyE.nil
      have HBA := hide hHeld
      go_simp
      refine hKH.out _ _ ?_
      clear hKH KH
      try clear hHeld
      try simp only [Act.put, List.setIfInBounds_toArray, List.set_cons_zero, List.set_cons_succ]
      refine wpAnyHE_done (by kernel_rfl) ?_ _
      refine NoPanic.normal ?_
      go_wp2
      go_ret
      exact ⟨ret_b (by first | rfl | simp), HBW.out _ HBA.out⟩
end Go.Proofs.YtgeedjlbajmdkaaGreatDoor
