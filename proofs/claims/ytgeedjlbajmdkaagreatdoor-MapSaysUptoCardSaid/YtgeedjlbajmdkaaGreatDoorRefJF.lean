/- The reference: what is wrong with a job. -/
import Derived.Test.YtgeedjlbajmdkaaGreatDoorJobCheck2
import Derived.Test.YtgeedjlbajmdkaaGreatDoorExpr6
set_option linter.unusedSimpArgs false
set_option linter.unusedVariables false
namespace Go.Proofs.YtgeedjlbajmdkaaGreatDoor
open Go.RowKit

set_option maxRecDepth 100000 in
set_option maxHeartbeats 4000000 in
theorem JobFault_any (ro : Option Addr) (rc : Nat) (rs : List RuleR) (fold slices : Int) (early : Bool) (w : World) (hl : rs.length ≤ maxLen) (hs : Sl 15 encRule w ro rs) (hr : ∀ r ∈ rs, ∃ d, RuleAt w d r) (hnd : ∀ r ∈ rs, r.cond.tree.nodes ≤ 2000000 ∧ r.key.tree.nodes ≤ 2000000 ∧ r.val.tree.nodes ≤ 2000000) :
    Calls Tryz.prog 8 #[.agg #[.slice ro rs.length rc, .int .i64 fold, .bool early, .int .i64 slices]] w fun e w' => e = .returned (.int .i64 (jobF (rs.map RuleR.v) fold slices)) ∧ Below w.heap.size w w' := by
  obtain ⟨W, hW⟩ : ∃ W, W = w.alloc (.cells #[.slice ro rs.length rc, .int .i64 fold, .bool early, .int .i64 slices] 24) := ⟨_, rfl⟩
  have hb0 : Below w.heap.size w W := by rw [hW]; exact (Below.refl _ _).alloc (Nat.le_refl _) _
  have hbk : Bk W w.heap.size [.slice ro rs.length rc, .int .i64 fold, .bool early, .int .i64 slices] := by rw [hW]; exact Bk.new rfl
  have c0 := hbk.get (j := 0) rfl
  have c1 := hbk.get (j := 1) rfl
  have c2 := hbk.get (j := 2) rfl
  have c3 := hbk.get (j := 3) rfl
  have HS := hide hs
  have HR := hide hr
  have HND := hide hnd
  have HBK := hide hbk
  have HB := hide hb0
  have HWW := hide hW
  obtain ⟨Q, hQ⟩ : ∃ Q, rs.map RuleR.v = Q := ⟨_, rfl⟩
  have hQl : Q.length = rs.length := by rw [← hQ, List.length_map]
  have HQ : Hid (∀ (i : Nat) r, rs[i]? = some r → Q[i]? = some r.v) := fun i r h => by rw [← hQ, List.getElem?_map, h]; rfl
  rw [hQ]
  unfold maxLen at hl
  clear hs hr hnd hb0 hbk hW hQ
  go_enter Tryz.func8, Tryz.ntmps8
  go_upto_region 1 with (fail)
  rw [← HWW.out]
  clear HWW
  by_cases h1 : rs.length < 1
  · have HT : Hid (jobF Q fold slices = 2) := jobF_many (.inl (by omega))
    have g1 : decide ((rs.length : Int) < 1) = true := by simp; omega
    go_wp2
    go_ret
    exact ⟨by rw [HT.out]; rfl, HB.out⟩
  have g1 : decide ((rs.length : Int) < 1) = false := by rw [decide_eq_false_iff_not]; omega
  by_cases h2 : 4 < rs.length
  · have HT : Hid (jobF Q fold slices = 2) := jobF_many (.inr (by omega))
    have g2 : decide ((4 : Int) < (rs.length : Int)) = true := by simp; omega
    go_wp2
    go_ret
    exact ⟨by rw [HT.out]; rfl, HB.out⟩
  have g2 : decide ((4 : Int) < (rs.length : Int)) = false := by rw [decide_eq_false_iff_not]; omega
  have n1 : ¬ (Q.length < 1 ∨ 4 < Q.length) := by omega
  by_cases h3 : fold < 1
  · have HT : Hid (jobF Q fold slices = 3) := jobF_fold n1 (.inl h3)
    have g3 : decide (fold < 1) = true := by simpa using h3
    clear n1
    go_wp2
    go_ret
    exact ⟨by rw [HT.out]; rfl, HB.out⟩
  have g3 : decide (fold < 1) = false := by simpa using h3
  by_cases h4 : 4 < fold
  · have HT : Hid (jobF Q fold slices = 3) := jobF_fold n1 (.inr h4)
    have g4 : decide (4 < fold) = true := by simpa using h4
    clear n1
    go_wp2
    go_ret
    exact ⟨by rw [HT.out]; rfl, HB.out⟩
  have g4 : decide (4 < fold) = false := by simpa using h4
  have n2 : ¬ (fold < 1 ∨ 4 < fold) := by omega
  by_cases h5 : slices < 1
  · have HT : Hid (jobF Q fold slices = 1) := jobF_slices n1 n2 (.inl h5)
    have g5 : decide (slices < 1) = true := by simpa using h5
    clear n1 n2
    go_wp2
    go_ret
    exact ⟨by rw [HT.out]; rfl, HB.out⟩
  have g5 : decide (slices < 1) = false := by simpa using h5
  by_cases h6 : 4 < slices
  · have HT : Hid (jobF Q fold slices = 1) := jobF_slices n1 n2 (.inr h6)
    have g6 : decide (4 < slices) = true := by simpa using h6
    clear n1 n2
    go_wp2
    go_ret
    exact ⟨by rw [HT.out]; rfl, HB.out⟩
  have g6 : decide (4 < slices) = false := by simpa using h6
  have HJ : Hid (jobF Q fold slices = rulesF Q) := jobF_rules n1 n2 (by omega)
  clear n1 n2
  go_upto_region 7 with (fail)
  clear c1 c2 c3 g1 g2 g3 g4 g5 g6
  go_wp2
  go_loopw [3] (fun v wr => ∃ j : Nat, j ≤ rs.length ∧ v = .int .i64 j ∧ Hid (rulesF Q = rulesF (Q.drop j)) ∧ Hid (Below w.heap.size w wr) ∧ Hid (Bk wr w.heap.size [.slice ro rs.length rc, .int .i64 fold, .bool early, .int .i64 slices])) (fun v _ => rs.length - (intOf v).toNat)
  case atStart => exact ⟨0, by omega, rfl, (by show _ = _; rw [List.drop_zero]), HB, HBK⟩
  case round =>
    clear HBK HB c0
    obtain ⟨j, hj, rfl, HF, HBL, HBK⟩ := hrel
    have c0 := HBK.out.get (j := 0) rfl
    by_cases hlt : j < rs.length
    · obtain ⟨b, off, r, rfl, hbw, hlk, hc⟩ := (HS.out.later HBL.out (Nat.le_refl _)).rule hlt
      obtain ⟨d, hra⟩ := HR.out r (List.mem_of_getElem? hlk)
      obtain ⟨m1, m2, m3⟩ := HND.out r (List.mem_of_getElem? hlk)
      have HDR := hide (rulesF_drop (HQ.out j r hlk))
      have k0 : wr.cell? ⟨b, off + j * 15, none⟩ = some (.bool r.each) := hc 0 _ rfl
      have k1 := hc 1 _ rfl
      have k2 := hc 2 _ rfl
      have k3 := hc 3 _ rfl
      have k4 := hc 4 _ rfl
      have k5 := hc 5 _ rfl
      have k6 := hc 6 _ rfl
      have k7 := hc 7 _ rfl
      have k8 := hc 8 _ rfl
      have k9 := hc 9 _ rfl
      have k10 := hc 10 _ rfl
      have k11 := hc 11 _ rfl
      have k12 := hc 12 _ rfl
      have k13 := hc 13 _ rfl
      have k14 := hc 14 _ rfl
      obtain ⟨each, wh, ⟨ck, cn, cs, cao, ccap, ca⟩, txt, ⟨kk, kn, ks, kao, kcap, ka⟩, ⟨vk, vn, vs, vao, vcap, va⟩⟩ := r
      obtain ⟨hxc, hxk, hxv, ht⟩ := hra
      unfold ExR.tree ExR.cells at hxc hxk hxv
      unfold ExR.tree at m1 m2 m3
      dsimp only at hxc hxk hxv ht m1 m2 m3 k0 k1 k2 k3 k4 k5 k6 k7 k8 k9 k10 k11 k12 k13 k14
      have HCC := hide fun w' (hb : Below w.heap.size w w') => ExprFault_any d ck cn cs ca cao ccap w' true each (hxc.later hb (Nat.le_refl _)) m1
      have HKC := hide fun w' (hb : Below w.heap.size w w') => ExprFault_any d kk kn ks ka kao kcap w' true each (hxk.later hb (Nat.le_refl _)) m2
      have HVC := hide fun w' (hb : Below w.heap.size w w') => ExprFault_any d vk vn vs va vao vcap w' false each (hxv.later hb (Nat.le_refl _)) m3
      obtain ⟨R, hR⟩ : ∃ R : RuleV, R = ⟨each, wh, .mk ck cn cs ca, txt, .mk kk kn ks ka, .mk vk vn vs va⟩ := ⟨_, rfl⟩
      have HFC : Hid (faultE R.cond true R.each = faultE (.mk ck cn cs ca) true each) := by rw [hR]; rfl
      have HFK : Hid (faultE R.key true R.each = faultE (.mk kk kn ks ka) true each) := by rw [hR]; rfl
      have HFV : Hid (faultE R.val false R.each = faultE (.mk vk vn vs va) false each) := by rw [hR]; rfl
      have HCN : Hid (0 ≤ faultE (.mk ck cn cs ca) true each) := faultE_nn _ _ _
      have HKN : Hid (0 ≤ faultE (.mk kk kn ks ka) true each) := faultE_nn _ _ _
      have HVN : Hid (0 ≤ faultE (.mk vk vn vs va) false each) := faultE_nn _ _ _
      have HRW : Hid (R.when_ = wh) := by rw [hR]; rfl
      have HRT : Hid (R.txt = txt) := by rw [hR]; rfl
      have HRB : Hid (blankE R.cond = ((ck == 0) && ((cn == 0) && (cs.toList.isEmpty && ca.isEmpty)))) := by rw [hR]; rfl
      rw [show RuleR.v ⟨each, wh, ⟨ck, cn, cs, cao, ccap, ca⟩, txt, ⟨kk, kn, ks, kao, kcap, ka⟩, ⟨vk, vn, vs, vao, vcap, va⟩⟩ = R from hR.symm] at HDR
      generalize faultE (.mk ck cn cs ca) true each = fc at *
      generalize faultE (.mk kk kn ks ka) true each = fk at *
      generalize faultE (.mk vk vn vs va) false each = fv at *
      clear hR hxc hxk hxv m1 m2 m3
      unfold maxLen at ht
      have f1 : (0 : Int) ≤ (j : Int) ∧ (j : Int) < (rs.length : Int) := by omega
      obtain ⟨f1, f2⟩ := f1
      clear hlk hc
      go_upto_region 11 with (fail)
      have hbA : Below wr.heap.size wr (wr.alloc (.cells #[.bool each, .int .i64 wh, .int .i64 ck, .int .i64 cn, .string cs, .slice cao ca.length ccap, .string txt, .int .i64 kk, .int .i64 kn, .string ks, .slice kao ka.length kcap, .int .i64 vk, .int .i64 vn, .string vs, .slice vao va.length vcap] 69)) := (Below.refl _ _).alloc (Nat.le_refl _) _
      have hbk2 : Bk (wr.alloc (.cells #[.bool each, .int .i64 wh, .int .i64 ck, .int .i64 cn, .string cs, .slice cao ca.length ccap, .string txt, .int .i64 kk, .int .i64 kn, .string ks, .slice kao ka.length kcap, .int .i64 vk, .int .i64 vn, .string vs, .slice vao va.length vcap] 69)) wr.heap.size [.bool each, .int .i64 wh, .int .i64 ck, .int .i64 cn, .string cs, .slice cao ca.length ccap, .string txt, .int .i64 kk, .int .i64 kn, .string ks, .slice kao ka.length kcap, .int .i64 vk, .int .i64 vn, .string vs, .slice vao va.length vcap] := Bk.new rfl
      replace k0 := hbk2.get (j := 0) rfl
      replace k1 := hbk2.get (j := 1) rfl
      replace k2 := hbk2.get (j := 2) rfl
      replace k3 := hbk2.get (j := 3) rfl
      replace k4 := hbk2.get (j := 4) rfl
      replace k5 := hbk2.get (j := 5) rfl
      replace k6 := hbk2.get (j := 6) rfl
      replace k7 := hbk2.get (j := 7) rfl
      replace k8 := hbk2.get (j := 8) rfl
      replace k9 := hbk2.get (j := 9) rfl
      replace k10 := hbk2.get (j := 10) rfl
      replace k11 := hbk2.get (j := 11) rfl
      replace k12 := hbk2.get (j := 12) rfl
      replace k13 := hbk2.get (j := 13) rfl
      replace k14 := hbk2.get (j := 14) rfl
      have HB2 := hide (HBL.out.trans (hbA.mono HBL.out.size))
      have HK2 := hide (HBK.out.later hbA)
      clear hbA hbk2 HBL HBK c0
      generalize wr.alloc (.cells #[.bool each, .int .i64 wh, .int .i64 ck, .int .i64 cn, .string cs, .slice cao ca.length ccap, .string txt, .int .i64 kk, .int .i64 kn, .string ks, .slice kao ka.length kcap, .int .i64 vk, .int .i64 vn, .string vs, .slice vao va.length vcap] 69) = W2 at *
      go_upto_block 2 with (fail)
      go_cut [] from 49 to 100 (fun wc => Hid (condF R = 0) ∧ Hid (Below W2.heap.size W2 wc))
      case first =>
        by_cases hw0 : wh = 0
        · have HC0 : Hid (condF R = if txt.toList.isEmpty = true ∧ ((ck == 0) && ((cn == 0) && (cs.toList.isEmpty && ca.isEmpty))) = true then 0 else 3) := by
            show _ = _
            rw [condF_0 (by rw [HRW.out]; exact hw0), HRT.out, HRB.out]
          have g1 : (wh == 0) = true := by simpa using hw0
          clear hw0 HFC HCC HRW HRT HRB
          obtain ⟨te, hte⟩ : ∃ te, txt.toList.isEmpty = te := ⟨_, rfl⟩
          cases te
          · have HC3 : Hid (condF R = 3) := by show _ = _; rw [HC0.out, hte]; rfl
            have HT : Hid (jobF Q fold slices = 3) := by
              show _ = _
              rw [HJ.out, HF.out, HDR.out, ruleF_cond (by rw [HC3.out]; decide), HC3.out]
              rfl
            go_wp2
            go_ret
            exact ⟨by rw [HT.out]; rfl, HB2.out⟩
          by_cases hck : ck = 0
          case neg =>
            have HC3 : Hid (condF R = 3) := by
              show _ = _
              rw [HC0.out, show (ck == 0) = false from beq_eq_false_iff_ne.2 hck]; simp
            have g4 : (ck != 0) = true := by simpa using hck
            have HT : Hid (jobF Q fold slices = 3) := by
              show _ = _
              rw [HJ.out, HF.out, HDR.out, ruleF_cond (by rw [HC3.out]; decide), HC3.out]
              rfl
            go_wp2
            go_ret
            exact ⟨by rw [HT.out]; rfl, HB2.out⟩
          have hke : (ck == 0) = true := by simpa using hck
          have g5 : (ck != 0) = false := by simpa using hck
          by_cases hcn : cn = 0
          case neg =>
            have HC3 : Hid (condF R = 3) := by
              show _ = _
              rw [HC0.out, show (cn == 0) = false from beq_eq_false_iff_ne.2 hcn]; simp
            have g4 : (cn != 0) = true := by simpa using hcn
            have HT : Hid (jobF Q fold slices = 3) := by
              show _ = _
              rw [HJ.out, HF.out, HDR.out, ruleF_cond (by rw [HC3.out]; decide), HC3.out]
              rfl
            go_wp2
            go_ret
            exact ⟨by rw [HT.out]; rfl, HB2.out⟩
          have hne : (cn == 0) = true := by simpa using hcn
          have g6 : (cn != 0) = false := by simpa using hcn
          obtain ⟨se, hse⟩ : ∃ se, cs.toList.isEmpty = se := ⟨_, rfl⟩
          cases se
          · have HC3 : Hid (condF R = 3) := by show _ = _; rw [HC0.out, hse]; simp
            have HT : Hid (jobF Q fold slices = 3) := by
              show _ = _
              rw [HJ.out, HF.out, HDR.out, ruleF_cond (by rw [HC3.out]; decide), HC3.out]
              rfl
            go_wp2
            go_ret
            exact ⟨by rw [HT.out]; rfl, HB2.out⟩
          by_cases hca : 0 < ca.length
          · have HC3 : Hid (condF R = 3) := by
              show _ = _
              rw [HC0.out]
              cases ca with
              | nil => simp at hca
              | cons a l => simp
            have g2 : decide (0 < ca.length) = true := by simpa using hca
            have g3 : decide ((0 : Int) < (ca.length : Int)) = true := by simp; omega
            have HT : Hid (jobF Q fold slices = 3) := by
              show _ = _
              rw [HJ.out, HF.out, HDR.out, ruleF_cond (by rw [HC3.out]; decide), HC3.out]
              rfl
            go_wp2
            go_ret
            exact ⟨by rw [HT.out]; rfl, HB2.out⟩
          have HCF : Hid (condF R = 0) := by
            show _ = _
            rw [HC0.out, hte, hke, hne, hse]
            obtain rfl : ca = [] := List.length_eq_zero_iff.1 (by omega)
            rfl
          have g2 : decide (0 < ca.length) = false := by simpa using hca
          have g3 : decide ((0 : Int) < (ca.length : Int)) = false := by rw [decide_eq_false_iff_not]; omega
          clear HC0 hca hck hcn hke hne
          go_wp2
          go_meet
          exact ⟨HCF, Below.refl _ _⟩
        · have g1 : (wh == 0) = false := by simpa using hw0
          by_cases hw1 : wh = 1 ∨ wh = 2
          · have HC0 : Hid (condF R = if txt.size ≤ 20 ∧ decide (0 ≤ Lib.indexByte txt.data.toList 10) = false then fc else 3) := by
              show _ = _
              rw [condF_12 (by rw [HRW.out]; exact hw1), HRT.out, HFC.out]
            clear hw0 HFC HRW HRT HRB
            have HST := hide fun w' => noEnd_any txt w' ht
            obtain ⟨io, hio⟩ : ∃ io, decide (0 ≤ Lib.indexByte txt.data.toList 10) = io := ⟨_, rfl⟩
            rw [hio] at HC0
            simp only [hio] at HST
            clear hio
            by_cases ht20 : 20 < txt.size
            · have HC3 : Hid (condF R = 3) := by show _ = _; rw [HC0.out, if_neg (by omega)]
              have g4 : decide ((20 : Int) < (txt.size : Int)) = true := by simp; omega
              rcases hw1 with h1 | h1
              · have g2 : (wh == 1) = true := by rw [h1]; rfl
                clear h1
                go_wp2_with fail
                refine (HST.out _).mono ?_
                rintro e w3 ⟨rfl, rfl⟩
                clear HST
                cases io with
                | false =>
                  have HT : Hid (jobF Q fold slices = 3) := by
                    show _ = _
                    rw [HJ.out, HF.out, HDR.out, ruleF_cond (by rw [HC3.out]; decide), HC3.out]
                    rfl
                  go_wp2
                  go_ret
                  exact ⟨by rw [HT.out]; rfl, HB2.out⟩
                | true =>
                  have HT : Hid (jobF Q fold slices = 3) := by
                    show _ = _
                    rw [HJ.out, HF.out, HDR.out, ruleF_cond (by rw [HC3.out]; decide), HC3.out]
                    rfl
                  go_wp2
                  go_ret
                  exact ⟨by rw [HT.out]; rfl, HB2.out⟩
              · have g2 : (wh == 1) = false := by rw [h1]; rfl
                have g3 : (wh == 2) = true := by rw [h1]; rfl
                clear h1
                go_wp2_with fail
                refine (HST.out _).mono ?_
                rintro e w3 ⟨rfl, rfl⟩
                clear HST
                cases io with
                | false =>
                  have HT : Hid (jobF Q fold slices = 3) := by
                    show _ = _
                    rw [HJ.out, HF.out, HDR.out, ruleF_cond (by rw [HC3.out]; decide), HC3.out]
                    rfl
                  go_wp2
                  go_ret
                  exact ⟨by rw [HT.out]; rfl, HB2.out⟩
                | true =>
                  have HT : Hid (jobF Q fold slices = 3) := by
                    show _ = _
                    rw [HJ.out, HF.out, HDR.out, ruleF_cond (by rw [HC3.out]; decide), HC3.out]
                    rfl
                  go_wp2
                  go_ret
                  exact ⟨by rw [HT.out]; rfl, HB2.out⟩
            have g4 : decide ((20 : Int) < (txt.size : Int)) = false := by simp; omega
            rcases hw1 with h1 | h1
            · have g2 : (wh == 1) = true := by rw [h1]; rfl
              clear h1
              go_wp2_with fail
              refine (HST.out _).mono ?_
              rintro e w3 ⟨rfl, rfl⟩
              clear HST
              cases io with
              | false =>
                have HCE : Hid (condF R = fc) := by show _ = _; rw [HC0.out, if_pos ⟨Nat.le_of_not_lt ht20, rfl⟩]
                clear HC0
                go_wp2_with fail
                refine (HCC.out _ HB2.out).mono ?_
                rintro e w4 ⟨rfl, b4⟩
                have HB4 := hide (HB2.out.trans (b4.mono HB2.out.size))
                by_cases hfc : fc = 0
                · have HCF : Hid (condF R = 0) := by show _ = _; rw [HCE.out]; exact hfc
                  have p0 : decide (0 < fc) = false := by rw [hfc]; rfl
                  have hb4 := hide b4
                  clear HCE hfc b4
                  go_wp2
                  go_meet
                  exact ⟨HCF, hb4⟩
                · have HT : Hid (jobF Q fold slices = fc) := by
                    show _ = _
                    rw [HJ.out, HF.out, HDR.out, ruleF_cond (by rw [HCE.out]; exact hfc), HCE.out, if_pos hfc]
                  have p0 : decide (0 < fc) = true := by have := HCN.out; rw [decide_eq_true_eq]; omega
                  clear HCE HFK HFV hfc HVC HKC b4
                  go_wp2
                  go_ret
                  exact ⟨by rw [HT.out]; rfl, HB4.out⟩
              | true =>
                have HC3 : Hid (condF R = 3) := by show _ = _; rw [HC0.out, if_neg (by simp)]
                have HT : Hid (jobF Q fold slices = 3) := by
                  show _ = _
                  rw [HJ.out, HF.out, HDR.out, ruleF_cond (by rw [HC3.out]; decide), HC3.out]
                  rfl
                go_wp2
                go_ret
                exact ⟨by rw [HT.out]; rfl, HB2.out⟩
            · have g2 : (wh == 1) = false := by rw [h1]; rfl
              have g3 : (wh == 2) = true := by rw [h1]; rfl
              clear h1
              go_wp2_with fail
              refine (HST.out _).mono ?_
              rintro e w3 ⟨rfl, rfl⟩
              clear HST
              cases io with
              | false =>
                have HCE : Hid (condF R = fc) := by show _ = _; rw [HC0.out, if_pos ⟨Nat.le_of_not_lt ht20, rfl⟩]
                clear HC0
                go_wp2_with fail
                refine (HCC.out _ HB2.out).mono ?_
                rintro e w4 ⟨rfl, b4⟩
                have HB4 := hide (HB2.out.trans (b4.mono HB2.out.size))
                by_cases hfc : fc = 0
                · have HCF : Hid (condF R = 0) := by show _ = _; rw [HCE.out]; exact hfc
                  have p0 : decide (0 < fc) = false := by rw [hfc]; rfl
                  have hb4 := hide b4
                  clear HCE hfc b4
                  go_wp2
                  go_meet
                  exact ⟨HCF, hb4⟩
                · have HT : Hid (jobF Q fold slices = fc) := by
                    show _ = _
                    rw [HJ.out, HF.out, HDR.out, ruleF_cond (by rw [HCE.out]; exact hfc), HCE.out, if_pos hfc]
                  have p0 : decide (0 < fc) = true := by have := HCN.out; rw [decide_eq_true_eq]; omega
                  clear HCE HFK HFV hfc HVC HKC b4
                  go_wp2
                  go_ret
                  exact ⟨by rw [HT.out]; rfl, HB4.out⟩
              | true =>
                have HC3 : Hid (condF R = 3) := by show _ = _; rw [HC0.out, if_neg (by simp)]
                have HT : Hid (jobF Q fold slices = 3) := by
                  show _ = _
                  rw [HJ.out, HF.out, HDR.out, ruleF_cond (by rw [HC3.out]; decide), HC3.out]
                  rfl
                go_wp2
                go_ret
                exact ⟨by rw [HT.out]; rfl, HB2.out⟩
          · have HC3 : Hid (condF R = 3) := condF_no (by rw [HRW.out]; exact hw0) (by rw [HRW.out]; exact hw1)
            have g2 : (wh == 1) = false := by rw [beq_eq_false_iff_ne]; omega
            have g3 : (wh == 2) = false := by rw [beq_eq_false_iff_ne]; omega
            clear hw0 hw1
            have HT : Hid (jobF Q fold slices = 3) := by
              show _ = _
              rw [HJ.out, HF.out, HDR.out, ruleF_cond (by rw [HC3.out]; decide), HC3.out]
              rfl
            go_wp2
            go_ret
            exact ⟨by rw [HT.out]; rfl, HB2.out⟩
      case rest =>
      obtain ⟨HCF, HBD⟩ := hcut
      have HB3 := hide (HB2.out.trans (HBD.out.mono HB2.out.size))
      have HK3 := hide (HK2.out.later HBD.out)
      replace k0 := cell_later HBD.out k0
      replace k7 := cell_later HBD.out k7
      replace k8 := cell_later HBD.out k8
      replace k9 := cell_later HBD.out k9
      replace k10 := cell_later HBD.out k10
      replace k11 := cell_later HBD.out k11
      replace k12 := cell_later HBD.out k12
      replace k13 := cell_later HBD.out k13
      replace k14 := cell_later HBD.out k14
      clear HBD HB2 HK2 HCC HFC HRW HRT HRB HCN k1 k2 k3 k4 k5 k6
      go_wp2_with fail
      refine (HKC.out _ HB3.out).mono ?_
      rintro e w5 ⟨rfl, b5⟩
      replace k0 := cell_later b5 k0
      replace k11 := cell_later b5 k11
      replace k12 := cell_later b5 k12
      replace k13 := cell_later b5 k13
      replace k14 := cell_later b5 k14
      replace HB3 := hide (HB3.out.trans (b5.mono HB3.out.size))
      replace HK3 := hide (HK3.out.later b5)
      clear b5 HKC k7 k8 k9 k10
      by_cases hfk : fk = 0
      · have HT : Hid (ruleF R = fv) := by
          show _ = _
          rw [← HFV.out]
          exact ruleF_val HCF.out (by rw [HFK.out]; exact hfk)
        have p0 : decide (0 < fk) = false := by rw [hfk]; rfl
        clear HFK HFV hfk
        go_wp2_with fail
        refine (HVC.out _ HB3.out).mono ?_
        rintro e w6 ⟨rfl, b6⟩
        replace HB3 := hide (HB3.out.trans (b6.mono HB3.out.size))
        replace HK3 := hide (HK3.out.later b6)
        clear b6 HVC
        by_cases hfv : fv = 0
        · have HF2 : Hid (rulesF Q = rulesF (Q.drop (j + 1))) := by show _ = _; rw [HF.out, HDR.out, if_neg (by rw [HT.out, hfv]; simp)]
          have p1 : decide (0 < fv) = false := by rw [hfv]; rfl
          clear hfv HDR HF HT
          go_wp2
          go_roundw
          case rel => exact ⟨j + 1, by omega, by go_num, HF2, HB3, HK3⟩
          case measure => (simp [intOf]; try omega)
        · have HT2 : Hid (jobF Q fold slices = fv) := by show _ = _; rw [HJ.out, HF.out, HDR.out, HT.out, if_pos hfv]
          have p1 : decide (0 < fv) = true := by have := HVN.out; rw [decide_eq_true_eq]; omega
          clear hfv HDR HF HT
          go_wp2
          go_ret
          exact ⟨by rw [HT2.out]; rfl, HB3.out⟩
      · have HT : Hid (ruleF R = fk) := by
          show _ = _
          rw [← HFK.out]
          exact ruleF_key HCF.out (by rw [HFK.out]; exact hfk)
        have HT2 : Hid (jobF Q fold slices = fk) := by show _ = _; rw [HJ.out, HF.out, HDR.out, HT.out, if_pos hfk]
        have p1 : decide (0 < fk) = true := by have := HKN.out; rw [decide_eq_true_eq]; omega
        clear HFK HFV hfk HVC HT HDR HF
        go_wp2
        go_ret
        exact ⟨by rw [HT2.out]; rfl, HB3.out⟩
    · obtain rfl : j = rs.length := by omega
      have HT : Hid (jobF Q fold slices = 0) := by show _ = _; rw [HJ.out, HF.out, ← hQl, List.drop_length]; rfl
      have e1 : decide ((rs.length : Int) < (rs.length : Int)) = false := by simp
      go_wp2
      go_ret
      exact ⟨by rw [HT.out]; rfl, HBL.out⟩
end Go.Proofs.YtgeedjlbajmdkaaGreatDoor
