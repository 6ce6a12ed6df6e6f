/- Jobs: what job.Check says of a rule. -/
import Derived.Test.YtjkggijkccbcpaaDoorJobOpen
import Derived.Test.YtjkggijkccbcpaaDoorJobLaw
set_option linter.unusedSimpArgs false
set_option linter.unusedVariables false
namespace Go.Proofs.YtjkggijkccbcpaaDoor
open Go.RowKit

theorem ruleF_cond {r : RuleV} (h : condF r ≠ 0) : ruleF r = condF r := if_pos h
theorem ruleF_key {r : RuleV} (h : condF r = 0) (hk : faultE r.key true r.each ≠ 0) : ruleF r = faultE r.key true r.each := by
  unfold ruleF; rw [if_neg (by rw [h]; simp), if_pos hk]
theorem ruleF_val {r : RuleV} (h : condF r = 0) (hk : faultE r.key true r.each = 0) : ruleF r = faultE r.val false r.each := by
  unfold ruleF; rw [if_neg (by rw [h]; simp), if_neg (by rw [hk]; simp)]
theorem condF_0 {r : RuleV} (h : r.when_ = 0) : condF r = if r.txt.toList.isEmpty = true ∧ blankE r.cond = true then 0 else 3 := if_pos h
theorem condF_12 {r : RuleV} (h : r.when_ = 1 ∨ r.when_ = 2) : condF r = if r.txt.size ≤ 20 ∧ decide (0 ≤ Lib.indexByte r.txt.data.toList 10) = false then faultE r.cond true r.each else 3 := by
  unfold condF; rw [if_neg (by omega), if_pos h]
theorem condF_no {r : RuleV} (h : ¬ r.when_ = 0) (h1 : ¬ (r.when_ = 1 ∨ r.when_ = 2)) : condF r = 3 := by
  unfold condF; rw [if_neg h, if_neg h1]
set_option maxRecDepth 100000 in
set_option maxHeartbeats 4000000 in
theorem rule_any (r : RuleR) (d : Nat) (w : World) (h : RuleAt w d r) :
    Calls Tryd.prog 22 #[r.agg] w fun e w' => e = .returned (errV (ruleF r.v)) ∧ Below w.heap.size w w' := by
  obtain ⟨each, wh, ⟨ck, cn, cs, cao, ccap, ca⟩, txt, ⟨kk, kn, ks, kao, kcap, ka⟩, ⟨vk, vn, vs, vao, vcap, va⟩⟩ := r
  obtain ⟨hc, hk, hv, ht⟩ := h
  unfold ExR.tree ExR.cells at hc hk hv
  dsimp only at hc hk hv ht
  obtain ⟨W, hW⟩ : ∃ W, W = w.alloc (.cells #[.bool each, .int .i64 wh, .int .i64 ck, .int .i64 cn, .string cs, .slice cao ca.length ccap, .string txt, .int .i64 kk, .int .i64 kn, .string ks, .slice kao ka.length kcap, .int .i64 vk, .int .i64 vn, .string vs, .slice vao va.length vcap] 61) := ⟨_, rfl⟩
  have hb0 : Below w.heap.size w W := by rw [hW]; exact (Below.refl _ _).alloc (Nat.le_refl _) _
  have hbk : Bk W w.heap.size [.bool each, .int .i64 wh, .int .i64 ck, .int .i64 cn, .string cs, .slice cao ca.length ccap, .string txt, .int .i64 kk, .int .i64 kn, .string ks, .slice kao ka.length kcap, .int .i64 vk, .int .i64 vn, .string vs, .slice vao va.length vcap] := by rw [hW]; exact Bk.new rfl
  have c0 := hbk.get (j := 0) rfl
  have c1 := hbk.get (j := 1) rfl
  have c2 := hbk.get (j := 2) rfl
  have c3 := hbk.get (j := 3) rfl
  have c4 := hbk.get (j := 4) rfl
  have c5 := hbk.get (j := 5) rfl
  have c6 := hbk.get (j := 6) rfl
  have c7 := hbk.get (j := 7) rfl
  have c8 := hbk.get (j := 8) rfl
  have c9 := hbk.get (j := 9) rfl
  have c10 := hbk.get (j := 10) rfl
  have c11 := hbk.get (j := 11) rfl
  have c12 := hbk.get (j := 12) rfl
  have c13 := hbk.get (j := 13) rfl
  have c14 := hbk.get (j := 14) rfl
  have HCC := hide fun w' (hb : Below w.heap.size w w') => Check_any d ck cn cs ca cao ccap w' true each (hc.later hb (Nat.le_refl _))
  have HKC := hide fun w' (hb : Below w.heap.size w w') => Check_any d kk kn ks ka kao kcap w' true each (hk.later hb (Nat.le_refl _))
  have HVC := hide fun w' (hb : Below w.heap.size w w') => Check_any d vk vn vs va vao vcap w' false each (hv.later hb (Nat.le_refl _))
  have HB := hide hb0
  obtain ⟨R, hR⟩ : ∃ R : RuleV, R = ⟨each, wh, .mk ck cn cs ca, txt, .mk kk kn ks ka, .mk vk vn vs va⟩ := ⟨_, rfl⟩
  have HFC : Hid (faultE R.cond true R.each = faultE (.mk ck cn cs ca) true each) := by rw [hR]; rfl
  have HFK : Hid (faultE R.key true R.each = faultE (.mk kk kn ks ka) true each) := by rw [hR]; rfl
  have HFV : Hid (faultE R.val false R.each = faultE (.mk vk vn vs va) false each) := by rw [hR]; rfl
  have HRW : Hid (R.when_ = wh) := by rw [hR]; rfl
  have HRT : Hid (R.txt = txt) := by rw [hR]; rfl
  have HRB : Hid (blankE R.cond = ((ck == 0) && ((cn == 0) && (cs.toList.isEmpty && ca.isEmpty)))) := by rw [hR]; rfl
  rw [show RuleR.v ⟨each, wh, ⟨ck, cn, cs, cao, ccap, ca⟩, txt, ⟨kk, kn, ks, kao, kcap, ka⟩, ⟨vk, vn, vs, vao, vcap, va⟩⟩ = R from hR.symm]
  generalize faultE (.mk ck cn cs ca) true each = fc at *
  generalize faultE (.mk kk kn ks ka) true each = fk at *
  generalize faultE (.mk vk vn vs va) false each = fv at *
  have HWW := hide hW
  clear hR hc hk hv hb0 hbk hW
  unfold maxLen at ht
  show Calls Tryd.prog 22 #[.agg #[.bool each, .int .i64 wh, .int .i64 ck, .int .i64 cn, .string cs, .slice cao ca.length ccap, .string txt, .int .i64 kk, .int .i64 kn, .string ks, .slice kao ka.length kcap, .int .i64 vk, .int .i64 vn, .string vs, .slice vao va.length vcap]] w _
  go_enter Tryd.func22, Tryd.ntmps22
  go_upto_region 1 with (fail)
  rw [← HWW.out]
  clear HWW
  by_cases hw0 : wh = 0
  · have HC0 : Hid (condF R = if txt.toList.isEmpty = true ∧ ((ck == 0) && ((cn == 0) && (cs.toList.isEmpty && ca.isEmpty))) = true then 0 else 3) := by
      show _ = _
      rw [condF_0 (by rw [HRW.out]; exact hw0), HRT.out, HRB.out]
    have g1 : (wh == 0) = true := by simpa using hw0
    clear hw0 HFC HCC HRW HRT HRB
    obtain ⟨te, hte⟩ : ∃ te, txt.toList.isEmpty = te := ⟨_, rfl⟩
    cases te
    · have HC3 : Hid (condF R = 3) := by show _ = _; rw [HC0.out, hte]; rfl
      have HT : Hid (ruleF R = 3) := by show _ = _; rw [ruleF_cond (by rw [HC3.out]; decide), HC3.out]
      go_wp2
      go_ret
      exact ⟨by rw [HT.out]; rfl, HB.out⟩
    by_cases hck : ck = 0
    case neg =>
      have HC3 : Hid (condF R = 3) := by
        show _ = _
        rw [HC0.out, show (ck == 0) = false from beq_eq_false_iff_ne.2 hck]; simp
      have g4 : (ck != 0) = true := by simpa using hck
      have HT : Hid (ruleF R = 3) := by show _ = _; rw [ruleF_cond (by rw [HC3.out]; decide), HC3.out]
      go_wp2
      go_ret
      exact ⟨by rw [HT.out]; rfl, HB.out⟩
    have hke : (ck == 0) = true := by simpa using hck
    have g5 : (ck != 0) = false := by simpa using hck
    by_cases hcn : cn = 0
    case neg =>
      have HC3 : Hid (condF R = 3) := by
        show _ = _
        rw [HC0.out, show (cn == 0) = false from beq_eq_false_iff_ne.2 hcn]; simp
      have g4 : (cn != 0) = true := by simpa using hcn
      have HT : Hid (ruleF R = 3) := by show _ = _; rw [ruleF_cond (by rw [HC3.out]; decide), HC3.out]
      go_wp2
      go_ret
      exact ⟨by rw [HT.out]; rfl, HB.out⟩
    have hne : (cn == 0) = true := by simpa using hcn
    have g6 : (cn != 0) = false := by simpa using hcn
    obtain ⟨se, hse⟩ : ∃ se, cs.toList.isEmpty = se := ⟨_, rfl⟩
    cases se
    · have HC3 : Hid (condF R = 3) := by show _ = _; rw [HC0.out, hse]; simp
      have HT : Hid (ruleF R = 3) := by show _ = _; rw [ruleF_cond (by rw [HC3.out]; decide), HC3.out]
      go_wp2
      go_ret
      exact ⟨by rw [HT.out]; rfl, HB.out⟩
    by_cases hca : 0 < ca.length
    · have HC3 : Hid (condF R = 3) := by
        show _ = _
        rw [HC0.out]
        cases ca with
        | nil => simp at hca
        | cons a l => simp
      have g2 : decide (0 < ca.length) = true := by simpa using hca
      have g3 : decide ((0 : Int) < (ca.length : Int)) = true := by simp; omega
      have HT : Hid (ruleF R = 3) := by show _ = _; rw [ruleF_cond (by rw [HC3.out]; decide), HC3.out]
      go_wp2
      go_ret
      exact ⟨by rw [HT.out]; rfl, HB.out⟩
    have HCF : Hid (condF R = 0) := by
      show _ = _
      rw [HC0.out, hte, hke, hne, hse]
      obtain rfl : ca = [] := List.length_eq_zero_iff.1 (by omega)
      rfl
    have g2 : decide (0 < ca.length) = false := by simpa using hca
    have g3 : decide ((0 : Int) < (ca.length : Int)) = false := by rw [decide_eq_false_iff_not]; omega
    clear HC0 hca hck hcn hke hne
    go_wp2_with fail
    refine (HKC.out _ HB.out).mono ?_
    rintro e w5 ⟨rfl, b5⟩
    replace c0 := cell_later b5 c0
    replace c11 := cell_later b5 c11
    replace c12 := cell_later b5 c12
    replace c13 := cell_later b5 c13
    replace c14 := cell_later b5 c14
    replace HB := hide (HB.out.trans (b5.mono HB.out.size))
    clear b5 HKC
    by_cases hfk : fk = 0
    · have HT : Hid (ruleF R = fv) := by
        show _ = _
        rw [← HFV.out]
        exact ruleF_val HCF.out (by rw [HFK.out]; exact hfk)
      rw [hfk, errV_zero]
      clear HFK HFV hfk
      go_wp2_with fail
      refine (HVC.out _ HB.out).mono ?_
      rintro e w6 ⟨rfl, b6⟩
      replace HB := hide (HB.out.trans (b6.mono HB.out.size))
      clear b6 HVC
      go_wp2
      go_ret
      exact ⟨by rw [HT.out]; rfl, HB.out⟩
    · have HT : Hid (ruleF R = fk) := by
        show _ = _
        rw [← HFK.out]
        exact ruleF_key HCF.out (by rw [HFK.out]; exact hfk)
      rw [errV_pos hfk]
      have HFE := hide (errV_pos hfk)
      clear HFK HFV hfk HVC
      go_wp2
      go_ret
      exact ⟨by rw [HT.out, HFE.out]; rfl, HB.out⟩
  · have g1 : (wh == 0) = false := by simpa using hw0
    by_cases hw1 : wh = 1 ∨ wh = 2
    · have HC0 : Hid (condF R = if txt.size ≤ 20 ∧ decide (0 ≤ Lib.indexByte txt.data.toList 10) = false then fc else 3) := by
        show _ = _
        rw [condF_12 (by rw [HRW.out]; exact hw1), HRT.out, HFC.out]
      clear hw0 HFC HRW HRT HRB
      by_cases ht20 : 20 < txt.size
      · have HC3 : Hid (condF R = 3) := by show _ = _; rw [HC0.out, if_neg (by omega)]
        have g4 : decide ((20 : Int) < (txt.size : Int)) = true := by simp; omega
        rcases hw1 with h1 | h1
        · have g2 : (wh == 1) = true := by rw [h1]; rfl
          clear h1
          have HT : Hid (ruleF R = 3) := by show _ = _; rw [ruleF_cond (by rw [HC3.out]; decide), HC3.out]
          go_wp2
          go_ret
          exact ⟨by rw [HT.out]; rfl, HB.out⟩
        · have g2 : (wh == 1) = false := by rw [h1]; rfl
          have g3 : (wh == 2) = true := by rw [h1]; rfl
          clear h1
          have HT : Hid (ruleF R = 3) := by show _ = _; rw [ruleF_cond (by rw [HC3.out]; decide), HC3.out]
          go_wp2
          go_ret
          exact ⟨by rw [HT.out]; rfl, HB.out⟩
      have g4 : decide ((20 : Int) < (txt.size : Int)) = false := by simp; omega
      have HST := hide fun w' => Tryd.strings_Contains_one txt 10 w'
      obtain ⟨io, hio⟩ : ∃ io, decide (0 ≤ Lib.indexByte txt.data.toList 10) = io := ⟨_, rfl⟩
      rw [hio] at HC0
      simp only [hio] at HST
      clear hio
      rcases hw1 with h1 | h1
      · have g2 : (wh == 1) = true := by rw [h1]; rfl
        clear h1
        go_wp2_with fail
        refine (HST.out _).mono ?_
        rintro e w3 ⟨rfl, rfl⟩
        clear HST
        cases io
        · have HCE : Hid (condF R = fc) := by show _ = _; rw [HC0.out, if_pos ⟨Nat.le_of_not_lt ht20, rfl⟩]
          clear HC0
          go_wp2_with fail
          refine (HCC.out _ HB.out).mono ?_
          rintro e w4 ⟨rfl, b4⟩
          replace c0 := cell_later b4 c0
          replace c7 := cell_later b4 c7
          replace c8 := cell_later b4 c8
          replace c9 := cell_later b4 c9
          replace c10 := cell_later b4 c10
          replace c11 := cell_later b4 c11
          replace c12 := cell_later b4 c12
          replace c13 := cell_later b4 c13
          replace c14 := cell_later b4 c14
          replace HB := hide (HB.out.trans (b4.mono HB.out.size))
          clear b4 HCC
          by_cases hfc : fc = 0
          · have HCF : Hid (condF R = 0) := by show _ = _; rw [HCE.out]; exact hfc
            rw [hfc, errV_zero]
            clear HCE hfc
            go_wp2_with fail
            refine (HKC.out _ HB.out).mono ?_
            rintro e w5 ⟨rfl, b5⟩
            replace c0 := cell_later b5 c0
            replace c11 := cell_later b5 c11
            replace c12 := cell_later b5 c12
            replace c13 := cell_later b5 c13
            replace c14 := cell_later b5 c14
            replace HB := hide (HB.out.trans (b5.mono HB.out.size))
            clear b5 HKC
            by_cases hfk : fk = 0
            · have HT : Hid (ruleF R = fv) := by
                show _ = _
                rw [← HFV.out]
                exact ruleF_val HCF.out (by rw [HFK.out]; exact hfk)
              rw [hfk, errV_zero]
              clear HFK HFV hfk
              go_wp2_with fail
              refine (HVC.out _ HB.out).mono ?_
              rintro e w6 ⟨rfl, b6⟩
              replace HB := hide (HB.out.trans (b6.mono HB.out.size))
              clear b6 HVC
              go_wp2
              go_ret
              exact ⟨by rw [HT.out]; rfl, HB.out⟩
            · have HT : Hid (ruleF R = fk) := by
                show _ = _
                rw [← HFK.out]
                exact ruleF_key HCF.out (by rw [HFK.out]; exact hfk)
              rw [errV_pos hfk]
              have HFE := hide (errV_pos hfk)
              clear HFK HFV hfk HVC
              go_wp2
              go_ret
              exact ⟨by rw [HT.out, HFE.out]; rfl, HB.out⟩
          · have HT : Hid (ruleF R = fc) := by show _ = _; rw [ruleF_cond (by rw [HCE.out]; exact hfc), HCE.out]
            rw [errV_pos hfc]
            have HFE := hide (errV_pos hfc)
            clear HCE HFK HFV hfc HVC HKC
            go_wp2
            go_ret
            exact ⟨by rw [HT.out, HFE.out]; rfl, HB.out⟩
        · have HC3 : Hid (condF R = 3) := by show _ = _; rw [HC0.out, if_neg (by simp)]
          have HT : Hid (ruleF R = 3) := by show _ = _; rw [ruleF_cond (by rw [HC3.out]; decide), HC3.out]
          go_wp2
          go_ret
          exact ⟨by rw [HT.out]; rfl, HB.out⟩
      · have g2 : (wh == 1) = false := by rw [h1]; rfl
        have g3 : (wh == 2) = true := by rw [h1]; rfl
        clear h1
        go_wp2_with fail
        refine (HST.out _).mono ?_
        rintro e w3 ⟨rfl, rfl⟩
        clear HST
        cases io
        · have HCE : Hid (condF R = fc) := by show _ = _; rw [HC0.out, if_pos ⟨Nat.le_of_not_lt ht20, rfl⟩]
          clear HC0
          go_wp2_with fail
          refine (HCC.out _ HB.out).mono ?_
          rintro e w4 ⟨rfl, b4⟩
          replace c0 := cell_later b4 c0
          replace c7 := cell_later b4 c7
          replace c8 := cell_later b4 c8
          replace c9 := cell_later b4 c9
          replace c10 := cell_later b4 c10
          replace c11 := cell_later b4 c11
          replace c12 := cell_later b4 c12
          replace c13 := cell_later b4 c13
          replace c14 := cell_later b4 c14
          replace HB := hide (HB.out.trans (b4.mono HB.out.size))
          clear b4 HCC
          by_cases hfc : fc = 0
          · have HCF : Hid (condF R = 0) := by show _ = _; rw [HCE.out]; exact hfc
            rw [hfc, errV_zero]
            clear HCE hfc
            go_wp2_with fail
            refine (HKC.out _ HB.out).mono ?_
            rintro e w5 ⟨rfl, b5⟩
            replace c0 := cell_later b5 c0
            replace c11 := cell_later b5 c11
            replace c12 := cell_later b5 c12
            replace c13 := cell_later b5 c13
            replace c14 := cell_later b5 c14
            replace HB := hide (HB.out.trans (b5.mono HB.out.size))
            clear b5 HKC
            by_cases hfk : fk = 0
            · have HT : Hid (ruleF R = fv) := by
                show _ = _
                rw [← HFV.out]
                exact ruleF_val HCF.out (by rw [HFK.out]; exact hfk)
              rw [hfk, errV_zero]
              clear HFK HFV hfk
              go_wp2_with fail
              refine (HVC.out _ HB.out).mono ?_
              rintro e w6 ⟨rfl, b6⟩
              replace HB := hide (HB.out.trans (b6.mono HB.out.size))
              clear b6 HVC
              go_wp2
              go_ret
              exact ⟨by rw [HT.out]; rfl, HB.out⟩
            · have HT : Hid (ruleF R = fk) := by
                show _ = _
                rw [← HFK.out]
                exact ruleF_key HCF.out (by rw [HFK.out]; exact hfk)
              rw [errV_pos hfk]
              have HFE := hide (errV_pos hfk)
              clear HFK HFV hfk HVC
              go_wp2
              go_ret
              exact ⟨by rw [HT.out, HFE.out]; rfl, HB.out⟩
          · have HT : Hid (ruleF R = fc) := by show _ = _; rw [ruleF_cond (by rw [HCE.out]; exact hfc), HCE.out]
            rw [errV_pos hfc]
            have HFE := hide (errV_pos hfc)
            clear HCE HFK HFV hfc HVC HKC
            go_wp2
            go_ret
            exact ⟨by rw [HT.out, HFE.out]; rfl, HB.out⟩
        · have HC3 : Hid (condF R = 3) := by show _ = _; rw [HC0.out, if_neg (by simp)]
          have HT : Hid (ruleF R = 3) := by show _ = _; rw [ruleF_cond (by rw [HC3.out]; decide), HC3.out]
          go_wp2
          go_ret
          exact ⟨by rw [HT.out]; rfl, HB.out⟩
    · have HC3 : Hid (condF R = 3) := condF_no (by rw [HRW.out]; exact hw0) (by rw [HRW.out]; exact hw1)
      have g2 : (wh == 1) = false := by rw [beq_eq_false_iff_ne]; omega
      have g3 : (wh == 2) = false := by rw [beq_eq_false_iff_ne]; omega
      clear hw0 hw1
      have HT : Hid (ruleF R = 3) := by show _ = _; rw [ruleF_cond (by rw [HC3.out]; decide), HC3.out]
      go_wp2
      go_ret
      exact ⟨by rw [HT.out]; rfl, HB.out⟩
end Go.Proofs.YtjkggijkccbcpaaDoor
