/- Jobs: job.Check. -/
import Derived.Test.YtgeedjlbajmdkaaGreatDoorJobCheck
set_option linter.unusedSimpArgs false
set_option linter.unusedVariables false
namespace Go.Proofs.YtgeedjlbajmdkaaGreatDoor
open Go.RowKit

theorem Sl.rule {w : World} {ao : Option Addr} {l : List RuleR} (h : Sl 15 encRule w ao l) {k : Nat} (hk : k < l.length) :
    ∃ b off r, ao = some ⟨b, off, none⟩ ∧ b < w.heap.size ∧ l[k]? = some r ∧ ∀ (j : Nat) u, (encRule r)[j]? = some u → w.cell? ⟨b, off + k * 15 + j, none⟩ = some u := by
  obtain ⟨b, off, e, hlt, hc⟩ := h (by omega)
  have hx : l[k]? = some l[k] := by simp [hk]
  exact ⟨b, off, l[k], e, hlt, hx, fun j u hj => hc k _ j u hx hj⟩
theorem jobF_many {rs : List RuleV} {fold slices : Int} (h : rs.length < 1 ∨ 4 < rs.length) : jobF rs fold slices = 2 := if_pos h
theorem jobF_fold {rs : List RuleV} {fold slices : Int} (h : ¬ (rs.length < 1 ∨ 4 < rs.length)) (h2 : fold < 1 ∨ 4 < fold) : jobF rs fold slices = 3 := by unfold jobF; rw [if_neg h, if_pos h2]
theorem jobF_slices {rs : List RuleV} {fold slices : Int} (h : ¬ (rs.length < 1 ∨ 4 < rs.length)) (h2 : ¬ (fold < 1 ∨ 4 < fold)) (h3 : slices < 1 ∨ 4 < slices) : jobF rs fold slices = 1 := by unfold jobF; rw [if_neg h, if_neg h2, if_pos h3]
theorem jobF_rules {rs : List RuleV} {fold slices : Int} (h : ¬ (rs.length < 1 ∨ 4 < rs.length)) (h2 : ¬ (fold < 1 ∨ 4 < fold)) (h3 : ¬ (slices < 1 ∨ 4 < slices)) : jobF rs fold slices = rulesF rs := by unfold jobF; rw [if_neg h, if_neg h2, if_neg h3]
set_option maxRecDepth 100000 in
set_option maxHeartbeats 4000000 in
theorem jobCheck_any (ro : Option Addr) (rc : Nat) (rs : List RuleR) (fold slices : Int) (early : Bool) (w : World) (hl : rs.length ≤ maxLen) (hs : Sl 15 encRule w ro rs) (hr : ∀ r ∈ rs, ∃ d, RuleAt w d r) :
    Calls Tryz.prog 10 #[.agg #[.slice ro rs.length rc, .int .i64 fold, .bool early, .int .i64 slices]] w fun e w' => e = .returned (errV (jobF (rs.map RuleR.v) fold slices)) ∧ Below w.heap.size w w' := by
  obtain ⟨W, hW⟩ : ∃ W, W = w.alloc (.cells #[.slice ro rs.length rc, .int .i64 fold, .bool early, .int .i64 slices] 24) := ⟨_, rfl⟩
  have hb0 : Below w.heap.size w W := by rw [hW]; exact (Below.refl _ _).alloc (Nat.le_refl _) _
  have hbk : Bk W w.heap.size [.slice ro rs.length rc, .int .i64 fold, .bool early, .int .i64 slices] := by rw [hW]; exact Bk.new rfl
  have c0 := hbk.get (j := 0) rfl
  have c1 := hbk.get (j := 1) rfl
  have c2 := hbk.get (j := 2) rfl
  have c3 := hbk.get (j := 3) rfl
  have HS := hide hs
  have HR := hide hr
  have HB := hide hb0
  have HWW := hide hW
  obtain ⟨Q, hQ⟩ : ∃ Q, rs.map RuleR.v = Q := ⟨_, rfl⟩
  have hQl : Q.length = rs.length := by rw [← hQ, List.length_map]
  have HQ : Hid (∀ (i : Nat) r, rs[i]? = some r → Q[i]? = some r.v) := fun i r h => by rw [← hQ, List.getElem?_map, h]; rfl
  rw [hQ]
  unfold maxLen at hl
  clear hs hr hb0 hbk hW hQ
  go_enter Tryz.func10, Tryz.ntmps10
  go_upto_region 1 with (fail)
  rw [← HWW.out]
  clear HWW
  by_cases h1 : rs.length < 1
  · have HT : Hid (jobF Q fold slices = 2) := jobF_many (.inl (by omega))
    have g1 : decide ((rs.length : Int) < 1) = true := by simp; omega
    go_wp2
    go_ret
    exact ⟨by rw [HT.out]; rfl, HB.out⟩
  have g1 : decide ((rs.length : Int) < 1) = false := by rw [decide_eq_false_iff_not]; omega
  by_cases h2 : 4 < rs.length
  · have HT : Hid (jobF Q fold slices = 2) := jobF_many (.inr (by omega))
    have g2 : decide ((4 : Int) < (rs.length : Int)) = true := by simp; omega
    go_wp2
    go_ret
    exact ⟨by rw [HT.out]; rfl, HB.out⟩
  have g2 : decide ((4 : Int) < (rs.length : Int)) = false := by rw [decide_eq_false_iff_not]; omega
  have n1 : ¬ (Q.length < 1 ∨ 4 < Q.length) := by omega
  by_cases h3 : fold < 1
  · have HT : Hid (jobF Q fold slices = 3) := jobF_fold n1 (.inl h3)
    have g3 : decide (fold < 1) = true := by simpa using h3
    clear n1
    go_wp2
    go_ret
    exact ⟨by rw [HT.out]; rfl, HB.out⟩
  have g3 : decide (fold < 1) = false := by simpa using h3
  by_cases h4 : 4 < fold
  · have HT : Hid (jobF Q fold slices = 3) := jobF_fold n1 (.inr h4)
    have g4 : decide (4 < fold) = true := by simpa using h4
    clear n1
    go_wp2
    go_ret
    exact ⟨by rw [HT.out]; rfl, HB.out⟩
  have g4 : decide (4 < fold) = false := by simpa using h4
  have n2 : ¬ (fold < 1 ∨ 4 < fold) := by omega
  by_cases h5 : slices < 1
  · have HT : Hid (jobF Q fold slices = 1) := jobF_slices n1 n2 (.inl h5)
    have g5 : decide (slices < 1) = true := by simpa using h5
    clear n1 n2
    go_wp2
    go_ret
    exact ⟨by rw [HT.out]; rfl, HB.out⟩
  have g5 : decide (slices < 1) = false := by simpa using h5
  by_cases h6 : 4 < slices
  · have HT : Hid (jobF Q fold slices = 1) := jobF_slices n1 n2 (.inr h6)
    have g6 : decide (4 < slices) = true := by simpa using h6
    clear n1 n2
    go_wp2
    go_ret
    exact ⟨by rw [HT.out]; rfl, HB.out⟩
  have g6 : decide (4 < slices) = false := by simpa using h6
  have HJ : Hid (jobF Q fold slices = rulesF Q) := jobF_rules n1 n2 (by omega)
  clear n1 n2
  go_wp2_with fail
  clear c1 c2 c3 g1 g2 g3 g4 g5 g6
  go_loopw [38] (fun v wr => ∃ j : Nat, j ≤ rs.length ∧ v = .int .i64 j ∧ Hid (rulesF Q = rulesF (Q.drop j)) ∧ Hid (Below w.heap.size w wr)) (fun v _ => rs.length - (intOf v).toNat)
  case atStart => exact ⟨0, by omega, rfl, (by show _ = _; rw [List.drop_zero]), HB⟩
  case round =>
    obtain ⟨j, hj, rfl, HF, HBL⟩ := hrel
    by_cases hlt : j < rs.length
    · obtain ⟨b, off, r, rfl, hbw, hlk, hc⟩ := (HS.out.later HBL.out (Nat.le_refl _)).rule hlt
      obtain ⟨d, hra⟩ := HR.out r (List.mem_of_getElem? hlk)
      have HDR := hide (rulesF_drop (HQ.out j r hlk))
      have k0 : wr.cell? ⟨b, off + j * 15, none⟩ = some (.bool r.each) := hc 0 _ rfl
      have k1 := hc 1 _ rfl
      have k2 := hc 2 _ rfl
      have k3 := hc 3 _ rfl
      have k4 := hc 4 _ rfl
      have k5 := hc 5 _ rfl
      have k6 := hc 6 _ rfl
      have k7 := hc 7 _ rfl
      have k8 := hc 8 _ rfl
      have k9 := hc 9 _ rfl
      have k10 := hc 10 _ rfl
      have k11 := hc 11 _ rfl
      have k12 := hc 12 _ rfl
      have k13 := hc 13 _ rfl
      have k14 := hc 14 _ rfl
      have HRC := hide fun w' (hb : Below w.heap.size w w') => rule_any r d w' (hra.later hb (Nat.le_refl _))
      have f1 : (0 : Int) ≤ (j : Int) ∧ (j : Int) < (rs.length : Int) := by omega
      obtain ⟨f1, f2⟩ := f1
      clear hlk hc hra
      go_upto_region 10 with (fail)
      have hbA : Below wr.heap.size wr (wr.alloc (.cells #[.bool r.each, .int .i64 r.when_, .int .i64 r.cond.k, .int .i64 r.cond.n, .string r.cond.s, .slice r.cond.ao r.cond.a.length r.cond.cap, .string r.txt, .int .i64 r.key.k, .int .i64 r.key.n, .string r.key.s, .slice r.key.ao r.key.a.length r.key.cap, .int .i64 r.val.k, .int .i64 r.val.n, .string r.val.s, .slice r.val.ao r.val.a.length r.val.cap] 69)) := (Below.refl _ _).alloc (Nat.le_refl _) _
      have hbk2 : Bk (wr.alloc (.cells #[.bool r.each, .int .i64 r.when_, .int .i64 r.cond.k, .int .i64 r.cond.n, .string r.cond.s, .slice r.cond.ao r.cond.a.length r.cond.cap, .string r.txt, .int .i64 r.key.k, .int .i64 r.key.n, .string r.key.s, .slice r.key.ao r.key.a.length r.key.cap, .int .i64 r.val.k, .int .i64 r.val.n, .string r.val.s, .slice r.val.ao r.val.a.length r.val.cap] 69)) wr.heap.size (encRule r) := Bk.new rfl
      replace k0 := hbk2.get (j := 0) rfl
      replace k1 := hbk2.get (j := 1) rfl
      replace k2 := hbk2.get (j := 2) rfl
      replace k3 := hbk2.get (j := 3) rfl
      replace k4 := hbk2.get (j := 4) rfl
      replace k5 := hbk2.get (j := 5) rfl
      replace k6 := hbk2.get (j := 6) rfl
      replace k7 := hbk2.get (j := 7) rfl
      replace k8 := hbk2.get (j := 8) rfl
      replace k9 := hbk2.get (j := 9) rfl
      replace k10 := hbk2.get (j := 10) rfl
      replace k11 := hbk2.get (j := 11) rfl
      replace k12 := hbk2.get (j := 12) rfl
      replace k13 := hbk2.get (j := 13) rfl
      replace k14 := hbk2.get (j := 14) rfl
      have HB2 := hide (HBL.out.trans (hbA.mono HBL.out.size))
      have HRC2 := hide (HRC.out _ HB2.out)
      clear hbA hbk2 HRC HBL
      generalize wr.alloc (.cells #[.bool r.each, .int .i64 r.when_, .int .i64 r.cond.k, .int .i64 r.cond.n, .string r.cond.s, .slice r.cond.ao r.cond.a.length r.cond.cap, .string r.txt, .int .i64 r.key.k, .int .i64 r.key.n, .string r.key.s, .slice r.key.ao r.key.a.length r.key.cap, .int .i64 r.val.k, .int .i64 r.val.n, .string r.val.s, .slice r.val.ao r.val.a.length r.val.cap] 69) = W2 at *
      generalize hfr : ruleF r.v = fr at *
      have HFR := hide hfr
      clear hfr
      unfold RuleR.agg at HRC2
      go_wp2_with fail
      refine HRC2.out.mono ?_
      rintro e w3 ⟨rfl, b3⟩
      have HB3 := hide (HB2.out.trans (b3.mono HB2.out.size))
      clear b3 HRC2
      by_cases hf0 : fr = 0
      · have HF2 : Hid (rulesF Q = rulesF (Q.drop (j + 1))) := by show _ = _; rw [HF.out, HDR.out, if_neg (by rw [hf0]; simp)]
        rw [hf0, errV_zero]
        clear hf0 HDR HF HFR
        go_wp2
        go_roundw
        case rel => exact ⟨j + 1, by omega, by go_num, HF2, HB3⟩
        case measure => (simp [intOf]; try omega)
      · have HT : Hid (jobF Q fold slices = fr) := by show _ = _; rw [HJ.out, HF.out, HDR.out, if_pos hf0]
        rw [errV_pos hf0]
        have HFE := hide (errV_pos hf0)
        clear hf0 HDR HF HFR
        go_wp2
        go_ret
        exact ⟨by rw [HT.out, HFE.out]; rfl, HB3.out⟩
    · obtain rfl : j = rs.length := by omega
      have HT : Hid (jobF Q fold slices = 0) := by show _ = _; rw [HJ.out, HF.out, ← hQl, List.drop_length]; rfl
      go_wp2
      go_ret
      exact ⟨by rw [HT.out]; rfl, HBL.out⟩
end Go.Proofs.YtgeedjlbajmdkaaGreatDoor
