/- Jobs: law.LightJob hands back some truth. -/
import Derived.Test.YtgeedjlbajmdkaaGreatDoorJobCheck2
set_option linter.unusedSimpArgs false
set_option linter.unusedVariables false
namespace Go.Proofs.YtgeedjlbajmdkaaGreatDoor
open Go.RowKit

def SomeB (w : World) (e : Ending) (w' : World) : Prop := (∃ b, e = .returned (.bool b)) ∧ Below w.heap.size w w'
theorem LightE_any (e : ExR) (d : Nat) (w : World) (h : ExAt w d e.tree e.cells) : ∃ b, ∀ w', Below w.heap.size w w' → Calls Tryz.prog 37 #[e.agg] w' fun e w'' => e = .returned (.bool b) ∧ Below w'.heap.size w' w'' :=
  ⟨_, fun w' hb => LightExpr_any d e.k e.n e.s e.a e.ao e.cap w' (h.later hb (Nat.le_refl _))⟩
set_option maxRecDepth 100000 in
set_option maxHeartbeats 4000000 in
theorem LightJob_any (ro : Option Addr) (rc : Nat) (rs : List RuleR) (fold slices : Int) (early : Bool) (w : World) (hl : rs.length ≤ maxLen) (hs : Sl 15 encRule w ro rs) (hr : ∀ r ∈ rs, ∃ d, RuleAt w d r) :
    Calls Tryz.prog 7 #[.agg #[.slice ro rs.length rc, .int .i64 fold, .bool early, .int .i64 slices]] w (SomeB w) := by
  obtain ⟨W, hW⟩ : ∃ W, W = w.alloc (.cells #[.slice ro rs.length rc, .int .i64 fold, .bool early, .int .i64 slices] 24) := ⟨_, rfl⟩
  have hb0 : Below w.heap.size w W := by rw [hW]; exact (Below.refl _ _).alloc (Nat.le_refl _) _
  have hbk : Bk W w.heap.size [.slice ro rs.length rc, .int .i64 fold, .bool early, .int .i64 slices] := by rw [hW]; exact Bk.new rfl
  have c0 := hbk.get (j := 0) rfl
  have HS := hide hs
  have HR := hide hr
  have HB := hide hb0
  have HWW := hide hW
  have HWL := hide hbk.lt
  unfold maxLen at hl
  clear hs hr hb0 hbk hW
  go_enter Tryz.func7, Tryz.ntmps7
  go_upto_region 1 with (fail)
  rw [← HWW.out]
  clear HWW
  by_cases h6 : 6 < rs.length
  · have g1 : decide ((6 : Int) < (rs.length : Int)) = true := by simp; omega
    go_wp2
    go_ret
    exact ⟨⟨false, rfl⟩, HB.out⟩
  have g1 : decide ((6 : Int) < (rs.length : Int)) = false := by rw [decide_eq_false_iff_not]; omega
  go_wp2_with fail
  clear g1
  go_loopw [3] (fun v wr => ∃ j : Nat, j ≤ rs.length ∧ v = .int .i64 j ∧ Hid (Below W.heap.size W wr)) (fun v _ => rs.length - (intOf v).toNat)
  case atStart => exact ⟨0, by omega, rfl, Below.refl _ _⟩
  case round =>
    obtain ⟨j, hj, rfl, HBW⟩ := hrel
    have HBL := hide (HB.out.trans (HBW.out.mono HB.out.size))
    have c0' := cell_later HBW.out c0
    by_cases hlt : j < rs.length
    · obtain ⟨b, off, r, rfl, hbw, hlk, hc⟩ := (HS.out.later HBL.out (Nat.le_refl _)).rule hlt
      obtain ⟨d, hra⟩ := HR.out r (List.mem_of_getElem? hlk)
      obtain ⟨b1, hb1⟩ := LightE_any r.cond d w hra.cond
      obtain ⟨b2, hb2⟩ := LightE_any r.key d w hra.key
      obtain ⟨b3, hb3⟩ := LightE_any r.val d w hra.val
      have H1 := hide hb1
      have H2 := hide hb2
      have H3 := hide hb3
      unfold ExR.agg at H1 H2 H3
      have k0 : wr.cell? ⟨b, off + j * 15, none⟩ = some (.bool r.each) := hc 0 _ rfl
      have k1 := hc 1 _ rfl
      have k2 := hc 2 _ rfl
      have k3 := hc 3 _ rfl
      have k4 := hc 4 _ rfl
      have k5 := hc 5 _ rfl
      have k6 := hc 6 _ rfl
      have k7 := hc 7 _ rfl
      have k8 := hc 8 _ rfl
      have k9 := hc 9 _ rfl
      have k10 := hc 10 _ rfl
      have k11 := hc 11 _ rfl
      have k12 := hc 12 _ rfl
      have k13 := hc 13 _ rfl
      have k14 := hc 14 _ rfl
      have f1 : (0 : Int) ≤ (j : Int) ∧ (j : Int) < (rs.length : Int) := by omega
      obtain ⟨f1, f2⟩ := f1
      clear hlk hc hra hb1 hb2 hb3
      go_upto_region 7 with (fail)
      have hbA : Below wr.heap.size wr (wr.alloc (.cells #[.bool r.each, .int .i64 r.when_, .int .i64 r.cond.k, .int .i64 r.cond.n, .string r.cond.s, .slice r.cond.ao r.cond.a.length r.cond.cap, .string r.txt, .int .i64 r.key.k, .int .i64 r.key.n, .string r.key.s, .slice r.key.ao r.key.a.length r.key.cap, .int .i64 r.val.k, .int .i64 r.val.n, .string r.val.s, .slice r.val.ao r.val.a.length r.val.cap] 69)) := (Below.refl _ _).alloc (Nat.le_refl _) _
      have hbk2 : Bk (wr.alloc (.cells #[.bool r.each, .int .i64 r.when_, .int .i64 r.cond.k, .int .i64 r.cond.n, .string r.cond.s, .slice r.cond.ao r.cond.a.length r.cond.cap, .string r.txt, .int .i64 r.key.k, .int .i64 r.key.n, .string r.key.s, .slice r.key.ao r.key.a.length r.key.cap, .int .i64 r.val.k, .int .i64 r.val.n, .string r.val.s, .slice r.val.ao r.val.a.length r.val.cap] 69)) wr.heap.size (encRule r) := Bk.new rfl
      replace k0 := hbk2.get (j := 0) rfl
      replace k1 := hbk2.get (j := 1) rfl
      replace k2 := hbk2.get (j := 2) rfl
      replace k3 := hbk2.get (j := 3) rfl
      replace k4 := hbk2.get (j := 4) rfl
      replace k5 := hbk2.get (j := 5) rfl
      replace k6 := hbk2.get (j := 6) rfl
      replace k7 := hbk2.get (j := 7) rfl
      replace k8 := hbk2.get (j := 8) rfl
      replace k9 := hbk2.get (j := 9) rfl
      replace k10 := hbk2.get (j := 10) rfl
      replace k11 := hbk2.get (j := 11) rfl
      replace k12 := hbk2.get (j := 12) rfl
      replace k13 := hbk2.get (j := 13) rfl
      replace k14 := hbk2.get (j := 14) rfl
      have HB2 := hide (HBL.out.trans (hbA.mono HBL.out.size))
      have HBW2 := hide (HBW.out.trans (hbA.mono HBW.out.size))
      clear hbA hbk2 HBL HBW
      generalize wr.alloc (.cells #[.bool r.each, .int .i64 r.when_, .int .i64 r.cond.k, .int .i64 r.cond.n, .string r.cond.s, .slice r.cond.ao r.cond.a.length r.cond.cap, .string r.txt, .int .i64 r.key.k, .int .i64 r.key.n, .string r.key.s, .slice r.key.ao r.key.a.length r.key.cap, .int .i64 r.val.k, .int .i64 r.val.n, .string r.val.s, .slice r.val.ao r.val.a.length r.val.cap] 69) = W2 at *
      go_wp2_with fail
      refine (H1.out _ HB2.out).mono ?_
      rintro e w3 ⟨rfl, q3⟩
      replace k6 := cell_later q3 k6
      replace k7 := cell_later q3 k7
      replace k8 := cell_later q3 k8
      replace k9 := cell_later q3 k9
      replace k10 := cell_later q3 k10
      replace k11 := cell_later q3 k11
      replace k12 := cell_later q3 k12
      replace k13 := cell_later q3 k13
      replace k14 := cell_later q3 k14
      replace HB2 := hide (HB2.out.trans (q3.mono HB2.out.size))
      replace HBW2 := hide (HBW2.out.trans (q3.mono HBW2.out.size))
      clear q3 H1
      cases b1
      · go_wp2
        go_ret
        exact ⟨⟨false, rfl⟩, HB2.out⟩
      go_wp2_with fail
      refine (H2.out _ HB2.out).mono ?_
      rintro e w4 ⟨rfl, q4⟩
      replace k6 := cell_later q4 k6
      replace k11 := cell_later q4 k11
      replace k12 := cell_later q4 k12
      replace k13 := cell_later q4 k13
      replace k14 := cell_later q4 k14
      replace HB2 := hide (HB2.out.trans (q4.mono HB2.out.size))
      replace HBW2 := hide (HBW2.out.trans (q4.mono HBW2.out.size))
      clear q4 H2
      cases b2
      · go_wp2
        go_ret
        exact ⟨⟨false, rfl⟩, HB2.out⟩
      go_wp2_with fail
      refine (H3.out _ HB2.out).mono ?_
      rintro e w5 ⟨rfl, q5⟩
      replace k6 := cell_later q5 k6
      replace HB2 := hide (HB2.out.trans (q5.mono HB2.out.size))
      replace HBW2 := hide (HBW2.out.trans (q5.mono HBW2.out.size))
      clear q5 H3
      cases b3
      · go_wp2
        go_ret
        exact ⟨⟨false, rfl⟩, HB2.out⟩
      by_cases ht : 100 < r.txt.size
      · have g2 : decide ((100 : Int) < (r.txt.size : Int)) = true := by simp; omega
        go_wp2
        go_ret
        exact ⟨⟨false, rfl⟩, HB2.out⟩
      have g2 : decide ((100 : Int) < (r.txt.size : Int)) = false := by rw [decide_eq_false_iff_not]; omega
      go_wp2
      go_roundw
      case rel => exact ⟨j + 1, by omega, by go_num, HBW2⟩
      case measure => (simp [intOf]; try omega)
    · have e2 : decide (j < rs.length) = false := by simpa using hlt
      go_wp2
      go_ret
      exact ⟨⟨true, rfl⟩, HBL.out⟩
end Go.Proofs.YtgeedjlbajmdkaaGreatDoor
