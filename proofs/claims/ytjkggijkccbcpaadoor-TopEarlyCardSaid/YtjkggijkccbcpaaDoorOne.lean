/- The mapper: one pair of a rule. -/
import Derived.Test.YtjkggijkccbcpaaDoorJobCheck
import Derived.Test.YtjkggijkccbcpaaDoorExpr11
import Derived.Test.YtjkggijkccbcpaaDoorHeldE
set_option linter.unusedSimpArgs false
set_option linter.unusedVariables false
namespace Go.Proofs.YtjkggijkccbcpaaDoor
open Go.RowKit

theorem StrR_any (e : ExR) (d : Nat) (line it : ByteArray) (wo : Option Addr) (wcap : Nat) (ws : List ByteArray) (each : Bool) (w : World) (hl : line.size ≤ 1000) (hi : it.size ≤ 1000) (hw : ∀ x ∈ ws, x.size ≤ 1000) (hws : ws.length ≤ 1000) (h : ExAt w d e.tree e.cells) (hsh : shE e.tree true each = true) (hn : e.tree.nodes ≤ 30) (hs : Sl 1 encS w wo ws) :
    Calls Tryd.prog 67 #[e.agg, .agg #[.string line, .string it, .slice wo ws.length wcap]] w fun q w' => q = .returned (.string (strE e.tree line it ws)) ∧ Below w.heap.size w w' :=
  Str_any line it wo wcap ws each hws (str_small hl hi hw) d e.k e.n e.s e.a e.ao e.cap w h hsh (by have : e.tree.nodes = (ExprV.mk e.k e.n e.s e.a).nodes := rfl; omega) hs
theorem IntR_any (e : ExR) (d : Nat) (line it : ByteArray) (wo : Option Addr) (wcap : Nat) (ws : List ByteArray) (each : Bool) (w : World) (hl : line.size ≤ 1000) (hi : it.size ≤ 1000) (hw : ∀ x ∈ ws, x.size ≤ 1000) (hws : ws.length ≤ 1000) (h : ExAt w d e.tree e.cells) (hsh : shE e.tree false each = true) (hn : e.tree.nodes ≤ 30) (hs : Sl 1 encS w wo ws) :
    Calls Tryd.prog 69 #[e.agg, .agg #[.string line, .string it, .slice wo ws.length wcap]] w fun q w' => q = .returned (.int .i64 (intE e.tree line it ws)) ∧ Below w.heap.size w w' :=
  Int_any line it wo wcap ws each hws (str_small hl hi hw) d e.k e.n e.s e.a e.ao e.cap w h hsh (by have : e.tree.nodes = (ExprV.mk e.k e.n e.s e.a).nodes := rfl; omega) hs
set_option maxRecDepth 100000 in
set_option maxHeartbeats 4000000 in
theorem one_any (r : RuleR) (d : Nat) (line it : ByteArray) (wo : Option Addr) (wcap : Nat) (ws : List ByteArray) (kind : Int) (w : World) (hr : RuleAt w d r) (hok : RuleOk r.v) (hl : line.size ≤ 1000) (hi : it.size ≤ 1000) (hw : ∀ x ∈ ws, x.size ≤ 1000) (hws : ws.length ≤ 1000) (hs : Sl 1 encS w wo ws) :
    Calls Tryd.prog 45 #[r.agg, .agg #[.string line, .string it, .slice wo ws.length wcap], .int .i64 kind] w fun e w' => (∃ p : Pr, e = .returned (.tuple #[.agg #[.string p.1, .int .i64 p.2], .bool (ifR r.v line it ws)]) ∧ (ifR r.v line it ws = true → p = pairR r.v kind line it ws)) ∧ Below w.heap.size w w' := by
  obtain ⟨W1, hW1⟩ : ∃ W, W = w.alloc (.cells #[.bool r.each, .int .i64 r.when_, .int .i64 r.cond.k, .int .i64 r.cond.n, .string r.cond.s, .slice r.cond.ao r.cond.a.length r.cond.cap, .string r.txt, .int .i64 r.key.k, .int .i64 r.key.n, .string r.key.s, .slice r.key.ao r.key.a.length r.key.cap, .int .i64 r.val.k, .int .i64 r.val.n, .string r.val.s, .slice r.val.ao r.val.a.length r.val.cap] 61) := ⟨_, rfl⟩
  obtain ⟨W2, hW2⟩ : ∃ W, W = W1.alloc (.cells #[.string line, .string it, .slice wo ws.length wcap] 99) := ⟨_, rfl⟩
  have hb1 : Below w.heap.size w W1 := by rw [hW1]; exact (Below.refl _ _).alloc (Nat.le_refl _) _
  have hb2 : Below W1.heap.size W1 W2 := by rw [hW2]; exact (Below.refl _ _).alloc (Nat.le_refl _) _
  have hbk : Bk W1 w.heap.size (encRule r) := by rw [hW1]; exact Bk.new rfl
  have hbx : Bk W2 W1.heap.size [.string line, .string it, .slice wo ws.length wcap] := by rw [hW2]; exact Bk.new rfl
  have hz1 : W1.heap.size = w.heap.size + 1 := by rw [hW1]; simp
  have hz2 : W2.heap.size = w.heap.size + 1 + 1 := by rw [hW2]; simp [hz1]
  have HB := hide (hb1.trans (hb2.mono hb1.size))
  have HBK := hide (hbk.later hb2)
  have HBX := hide hbx
  have HW1 := hide hW1
  have HW2 := hide hW2
  have HSC := hide fun w' (hb : Below w.heap.size w w') (h0 : r.when_ ≠ 0) => StrR_any r.cond d line it wo wcap ws r.each w' hl hi hw hws (hr.cond.later hb (Nat.le_refl _)) (hok.cond h0).2.2 (hok.cond h0).1 (hs.later hb (Nat.le_refl _))
  have HSV := hide fun w' (hb : Below w.heap.size w w') => IntR_any r.val d line it wo wcap ws r.each w' hl hi hw hws (hr.val.later hb (Nat.le_refl _)) hok.val.2.2 hok.val.1 (hs.later hb (Nat.le_refl _))
  have HSK := hide fun w' (hb : Below w.heap.size w w') => StrR_any r.key d line it wo wcap ws r.each w' hl hi hw hws (hr.key.later hb (Nat.le_refl _)) hok.key.2.2 hok.key.1 (hs.later hb (Nat.le_refl _))
  unfold ExR.agg at HSC HSK HSV
  clear hb1 hb2 hbk hbx hW1 hW2
  show Calls Tryd.prog 45 #[.agg #[.bool r.each, .int .i64 r.when_, .int .i64 r.cond.k, .int .i64 r.cond.n, .string r.cond.s, .slice r.cond.ao r.cond.a.length r.cond.cap, .string r.txt, .int .i64 r.key.k, .int .i64 r.key.n, .string r.key.s, .slice r.key.ao r.key.a.length r.key.cap, .int .i64 r.val.k, .int .i64 r.val.n, .string r.val.s, .slice r.val.ao r.val.a.length r.val.cap], .agg #[.string line, .string it, .slice wo ws.length wcap], .int .i64 kind] w _
  go_enter Tryd.func45, Tryd.ntmps45
  go_upto_region 1 with (fail)
  rw [← HW1.out, ← HW2.out]
  have hb3 : Below W2.heap.size W2 (W2.alloc (.cells #[.string ⟨#[]⟩, .int .i64 0] 70)) := (Below.refl _ _).alloc (Nat.le_refl _) _
  have HB3 := hide (HB.out.trans (hb3.mono HB.out.size))
  have HBK3 := hide (HBK.out.later hb3)
  have HBX3 := hide (HBX.out.later hb3)
  have HBR3 : Hid (Bk (W2.alloc (.cells #[.string ⟨#[]⟩, .int .i64 0] 70)) W2.heap.size [.string ⟨#[]⟩, .int .i64 0]) := Bk.new rfl
  rw [hz1] at HBX3
  rw [hz2] at HBR3
  clear hb3 HW1 HW2 HB HBK HBX hz1 hz2
  generalize W2.alloc (.cells #[.string ⟨#[]⟩, .int .i64 0] 70) = W3 at *
  have k0 := HBK3.out.get (j := 0) rfl
  have k1 := HBK3.out.get (j := 1) rfl
  have k2 := HBK3.out.get (j := 2) rfl
  have k3 := HBK3.out.get (j := 3) rfl
  have k4 := HBK3.out.get (j := 4) rfl
  have k5 := HBK3.out.get (j := 5) rfl
  have k6 := HBK3.out.get (j := 6) rfl
  have k7 := HBK3.out.get (j := 7) rfl
  have k8 := HBK3.out.get (j := 8) rfl
  have k9 := HBK3.out.get (j := 9) rfl
  have k10 := HBK3.out.get (j := 10) rfl
  have k11 := HBK3.out.get (j := 11) rfl
  have k12 := HBK3.out.get (j := 12) rfl
  have k13 := HBK3.out.get (j := 13) rfl
  have k14 := HBK3.out.get (j := 14) rfl
  have x0 := HBX3.out.get (j := 0) rfl
  have x1 := HBX3.out.get (j := 1) rfl
  have x2 := HBX3.out.get (j := 2) rfl
  by_cases h0 : r.when_ = 0
  · have g0 : (r.when_ != 0) = false := by simpa using h0
    have HIF : Hid (ifR r.v line it ws = true) := by show _ = _; unfold ifR; simp [RuleR.v, h0]
    have q1 := cell_regrown k1
    refine wp_region_quiet_below (by kernel_rfl) (by kernel_rfl) ?_
    repeat (go_big_quiet_step (fail))
    refine wpQuiet_nil ?_
    intro _ hw'
    obtain ⟨⟨dq, osq⟩, hw''⟩ := hw'
    subst hw''
    have hbg := below_regrown W3 dq osq
    have HB4 := hide (HB3.out.trans (hbg.mono HB3.out.size))
    have HBR4 := hide (HBR3.out.later hbg)
    have HBK4 := hide (HBK3.out.later hbg)
    have HBX4 := hide (HBX3.out.later hbg)
    clear k0 k1 k2 k3 k4 k5 k6 k7 k8 k9 k10 k11 k12 k13 k14 x0 x1 x2 q1 hbg HSC
    generalize Go.Sort.grow (redrawn W3 dq) osq = W4 at *
    have k7' := HBK4.out.get (j := 7) rfl
    have k8' := HBK4.out.get (j := 8) rfl
    have k9' := HBK4.out.get (j := 9) rfl
    have k10' := HBK4.out.get (j := 10) rfl
    have x0' := HBX4.out.get (j := 0) rfl
    have x1' := HBX4.out.get (j := 1) rfl
    have x2' := HBX4.out.get (j := 2) rfl
    go_wp2_with fail
    refine (HSK.out _ HB4.out).mono ?_
    rintro e w5 ⟨rfl, b5⟩
    replace HB4 := hide (HB4.out.trans (b5.mono HB4.out.size))
    replace HBR4 := hide (HBR4.out.later b5)
    replace HBK4 := hide (HBK4.out.later b5)
    replace HBX4 := hide (HBX4.out.later b5)
    clear b5 HSK k7' k8' k9' k10' x0' x1' x2'
    go_upto_region 4 with (fail)
    have k11' := cell_regrown (HBK4.out.get (j := 11) rfl)
    have k12' := cell_regrown (HBK4.out.get (j := 12) rfl)
    have k13' := cell_regrown (HBK4.out.get (j := 13) rfl)
    have k14' := cell_regrown (HBK4.out.get (j := 14) rfl)
    have x0' := cell_regrown (HBX4.out.get (j := 0) rfl)
    have x1' := cell_regrown (HBX4.out.get (j := 1) rfl)
    have x2' := cell_regrown (HBX4.out.get (j := 2) rfl)
    have HPR : Hid (pairR r.v kind line it ws = (cut20 (strE r.key.tree line it ws), first kind (intE r.val.tree line it ws))) := rfl
    obtain ⟨ks, hks⟩ : ∃ ks, strE r.key.tree line it ws = ks := ⟨_, rfl⟩
    obtain ⟨vi, hvi⟩ : ∃ vi, intE r.val.tree line it ws = vi := ⟨_, rfl⟩
    rw [hks, hvi] at HPR
    rw [hks]
    rw [hvi] at HSV
    clear hks hvi
    have m1 : (0 : Int) ≤ min (ks.size : Int) 20 := by omega
    have m2 : min (ks.size : Int) 20 ≤ (ks.size : Int) := by omega
    refine wp_region_below_tail 12 (by kernel_rfl) (by kernel_rfl) ?_
    simp only [List.take_succ_cons, List.take_zero, List.drop_succ_cons, List.drop_zero]
    repeat (go_big_quiet_step (first | (go_at_call 69; exact Calls.regrown_of (HSV.out _ (HB4.out.trans ((below_regrown _ _ _).mono HB4.out.size)))) | (go_at_call 68; exact regrown_same (First_any _ _ _))))
    refine wpQuiet_nil ?_
    intro _ hw'
    obtain ⟨⟨dq, osq⟩, hw''⟩ := hw'
    subst hw''
    have hbg := below_regrown w5 dq osq
    replace HB4 := hide (HB4.out.trans (hbg.mono HB4.out.size))
    replace HBR4 := hide (HBR4.out.later hbg)
    clear k11' k12' k13' k14' x0' x1' x2' HBK4 HBX4 hbg HSV m1 m2
    generalize Go.Sort.grow (redrawn w5 dq) osq = W6 at *
    have c0 := HBR4.out.get (j := 0) rfl
    have c1 := HBR4.out.get (j := 1) rfl
    have z0 := HBR4.out.fz 0
    have z1 := HBR4.out.fz 1
    have hk9 := (HBR4.out.set (k := 0) (u := .string ⟨#[]⟩) (.string (ks.extract 0 (min (ks.size : Int) 20).toNat)) rfl).set (k := 1) (u := .int .i64 0) (.int .i64 (first kind vi)) rfl
    have f0 := hk9.get (j := 0) rfl
    have f1 := hk9.get (j := 1) rfl
    have y0 := hk9.fz 0
    have y1 := hk9.fz 1
    have HB9 := hide ((HB4.out.setCell (p := ⟨w.heap.size + 1 + 1, 0, none⟩) (by show w.heap.size ≤ w.heap.size + 1 + 1; omega) (.string (ks.extract 0 (min (ks.size : Int) 20).toNat))).setCell (p := ⟨w.heap.size + 1 + 1, 1, none⟩) (by show w.heap.size ≤ w.heap.size + 1 + 1; omega) (.int .i64 (first kind vi)))
    have HCU : Hid (ks.extract 0 (min (ks.size : Int) 20).toNat = cut20 ks) := by show _ = _; unfold cut20; congr 1; omega
    clear hk9
    go_wp2
    exact bodyPost_ret (v := .tuple #[.agg #[.string (ks.extract 0 (min (ks.size : Int) 20).toNat), .int .i64 (first kind vi)], .bool true]) (by simp [results, Tryd.results45, go_sem, f0, f1, y0, y1]) rfl ⟨⟨(cut20 ks, first kind vi), by rw [HIF.out, HCU.out], fun _ => by rw [HPR.out]⟩, HB9.out⟩
  · have g0 : (r.when_ != 0) = true := by simpa using h0
    have HC := hide fun w' hb => HSC.out w' hb h0
    obtain ⟨so, hso⟩ : ∃ so, strE r.cond.tree line it ws = so := ⟨_, rfl⟩
    rw [hso] at HC
    have HIF0 : Hid (ifR r.v line it ws = (decide (so = r.txt) == decide (r.when_ = 1))) := by
      show _ = _
      unfold ifR
      rw [show (r.v.when_ == 0) = false from beq_eq_false_iff_ne.2 h0, show strE r.v.cond line it ws = so from hso]
      rfl
    clear hso HSC h0
    by_cases his : so = r.txt
    · have gi : (so.toList == r.txt.toList) = true := by rw [his]; exact beqq _
      by_cases hon : r.when_ = 1
      · have go1 : (r.when_ == 1) = true := by simpa using hon
        have HIF : Hid (ifR r.v line it ws = true) := by show _ = _; rw [HIF0.out]; simp [his, hon]
        clear his hon HIF0
        have q1 := cell_regrown k1
        have q2 := cell_regrown k2
        have q3 := cell_regrown k3
        have q4 := cell_regrown k4
        have q5 := cell_regrown k5
        have q6 := cell_regrown k6
        have y0 := cell_regrown x0
        have y1 := cell_regrown x1
        have y2 := cell_regrown x2
        refine wp_region_quiet_below (by kernel_rfl) (by kernel_rfl) ?_
        repeat (go_big_quiet_step (first | (go_at_call 67; exact Calls.regrown_of (HC.out _ (HB3.out.trans ((below_regrown _ _ _).mono HB3.out.size))))))
        refine wpQuiet_nil ?_
        intro _ hw'
        obtain ⟨⟨dq, osq⟩, hw''⟩ := hw'
        subst hw''
        have hbg := below_regrown W3 dq osq
        have HB4 := hide (HB3.out.trans (hbg.mono HB3.out.size))
        have HBR4 := hide (HBR3.out.later hbg)
        have HBK4 := hide (HBK3.out.later hbg)
        have HBX4 := hide (HBX3.out.later hbg)
        clear q1 q2 q3 q4 q5 q6 y0 y1 y2 hbg
        generalize Go.Sort.grow (redrawn W3 dq) osq = W4 at *
        clear k0 k1 k2 k3 k4 k5 k6 k7 k8 k9 k10 k11 k12 k13 k14 x0 x1 x2 HC
        have k7' := HBK4.out.get (j := 7) rfl
        have k8' := HBK4.out.get (j := 8) rfl
        have k9' := HBK4.out.get (j := 9) rfl
        have k10' := HBK4.out.get (j := 10) rfl
        have x0' := HBX4.out.get (j := 0) rfl
        have x1' := HBX4.out.get (j := 1) rfl
        have x2' := HBX4.out.get (j := 2) rfl
        go_wp2_with fail
        refine (HSK.out _ HB4.out).mono ?_
        rintro e w5 ⟨rfl, b5⟩
        replace HB4 := hide (HB4.out.trans (b5.mono HB4.out.size))
        replace HBR4 := hide (HBR4.out.later b5)
        replace HBK4 := hide (HBK4.out.later b5)
        replace HBX4 := hide (HBX4.out.later b5)
        clear b5 HSK k7' k8' k9' k10' x0' x1' x2'
        go_upto_region 4 with (fail)
        have k11' := cell_regrown (HBK4.out.get (j := 11) rfl)
        have k12' := cell_regrown (HBK4.out.get (j := 12) rfl)
        have k13' := cell_regrown (HBK4.out.get (j := 13) rfl)
        have k14' := cell_regrown (HBK4.out.get (j := 14) rfl)
        have x0' := cell_regrown (HBX4.out.get (j := 0) rfl)
        have x1' := cell_regrown (HBX4.out.get (j := 1) rfl)
        have x2' := cell_regrown (HBX4.out.get (j := 2) rfl)
        have HPR : Hid (pairR r.v kind line it ws = (cut20 (strE r.key.tree line it ws), first kind (intE r.val.tree line it ws))) := rfl
        obtain ⟨ks, hks⟩ : ∃ ks, strE r.key.tree line it ws = ks := ⟨_, rfl⟩
        obtain ⟨vi, hvi⟩ : ∃ vi, intE r.val.tree line it ws = vi := ⟨_, rfl⟩
        rw [hks, hvi] at HPR
        rw [hks]
        rw [hvi] at HSV
        clear hks hvi
        have m1 : (0 : Int) ≤ min (ks.size : Int) 20 := by omega
        have m2 : min (ks.size : Int) 20 ≤ (ks.size : Int) := by omega
        refine wp_region_below_tail 12 (by kernel_rfl) (by kernel_rfl) ?_
        simp only [List.take_succ_cons, List.take_zero, List.drop_succ_cons, List.drop_zero]
        repeat (go_big_quiet_step (first | (go_at_call 69; exact Calls.regrown_of (HSV.out _ (HB4.out.trans ((below_regrown _ _ _).mono HB4.out.size)))) | (go_at_call 68; exact regrown_same (First_any _ _ _))))
        refine wpQuiet_nil ?_
        intro _ hw'
        obtain ⟨⟨dq, osq⟩, hw''⟩ := hw'
        subst hw''
        have hbg := below_regrown w5 dq osq
        replace HB4 := hide (HB4.out.trans (hbg.mono HB4.out.size))
        replace HBR4 := hide (HBR4.out.later hbg)
        clear k11' k12' k13' k14' x0' x1' x2' HBK4 HBX4 hbg HSV m1 m2
        generalize Go.Sort.grow (redrawn w5 dq) osq = W6 at *
        have c0 := HBR4.out.get (j := 0) rfl
        have c1 := HBR4.out.get (j := 1) rfl
        have z0 := HBR4.out.fz 0
        have z1 := HBR4.out.fz 1
        have hk9 := (HBR4.out.set (k := 0) (u := .string ⟨#[]⟩) (.string (ks.extract 0 (min (ks.size : Int) 20).toNat)) rfl).set (k := 1) (u := .int .i64 0) (.int .i64 (first kind vi)) rfl
        have f0 := hk9.get (j := 0) rfl
        have f1 := hk9.get (j := 1) rfl
        have y0 := hk9.fz 0
        have y1 := hk9.fz 1
        have HB9 := hide ((HB4.out.setCell (p := ⟨w.heap.size + 1 + 1, 0, none⟩) (by show w.heap.size ≤ w.heap.size + 1 + 1; omega) (.string (ks.extract 0 (min (ks.size : Int) 20).toNat))).setCell (p := ⟨w.heap.size + 1 + 1, 1, none⟩) (by show w.heap.size ≤ w.heap.size + 1 + 1; omega) (.int .i64 (first kind vi)))
        have HCU : Hid (ks.extract 0 (min (ks.size : Int) 20).toNat = cut20 ks) := by show _ = _; unfold cut20; congr 1; omega
        clear hk9
        go_wp2
        exact bodyPost_ret (v := .tuple #[.agg #[.string (ks.extract 0 (min (ks.size : Int) 20).toNat), .int .i64 (first kind vi)], .bool true]) (by simp [results, Tryd.results45, go_sem, f0, f1, y0, y1]) rfl ⟨⟨(cut20 ks, first kind vi), by rw [HIF.out, HCU.out], fun _ => by rw [HPR.out]⟩, HB9.out⟩
      · have go1 : (r.when_ == 1) = false := by simpa using hon
        have HIF : Hid (ifR r.v line it ws = false) := by show _ = _; rw [HIF0.out]; simp [his, hon]
        clear his hon HIF0
        have q1 := cell_regrown k1
        have q2 := cell_regrown k2
        have q3 := cell_regrown k3
        have q4 := cell_regrown k4
        have q5 := cell_regrown k5
        have q6 := cell_regrown k6
        have y0 := cell_regrown x0
        have y1 := cell_regrown x1
        have y2 := cell_regrown x2
        refine wp_region_quiet_below (by kernel_rfl) (by kernel_rfl) ?_
        repeat (go_big_quiet_step (first | (go_at_call 67; exact Calls.regrown_of (HC.out _ (HB3.out.trans ((below_regrown _ _ _).mono HB3.out.size))))))
        refine wpQuiet_nil ?_
        intro _ hw'
        obtain ⟨⟨dq, osq⟩, hw''⟩ := hw'
        subst hw''
        have hbg := below_regrown W3 dq osq
        have HB4 := hide (HB3.out.trans (hbg.mono HB3.out.size))
        have HBR4 := hide (HBR3.out.later hbg)
        have HBK4 := hide (HBK3.out.later hbg)
        have HBX4 := hide (HBX3.out.later hbg)
        clear q1 q2 q3 q4 q5 q6 y0 y1 y2 hbg
        generalize Go.Sort.grow (redrawn W3 dq) osq = W4 at *
        have c0 := HBR4.out.get (j := 0) rfl
        have c1 := HBR4.out.get (j := 1) rfl
        have z0 := HBR4.out.fz 0
        have z1 := HBR4.out.fz 1
        have hk9 := (HBR4.out.set (k := 0) (u := .string ⟨#[]⟩) (.string ⟨#[]⟩) rfl).set (k := 1) (u := .int .i64 0) (.int .i64 0) rfl
        have f0 := hk9.get (j := 0) rfl
        have f1 := hk9.get (j := 1) rfl
        have y0 := hk9.fz 0
        have y1 := hk9.fz 1
        have HB9 := hide ((HB4.out.setCell (p := ⟨w.heap.size + 1 + 1, 0, none⟩) (by show w.heap.size ≤ w.heap.size + 1 + 1; omega) (.string ⟨#[]⟩)).setCell (p := ⟨w.heap.size + 1 + 1, 1, none⟩) (by show w.heap.size ≤ w.heap.size + 1 + 1; omega) (.int .i64 0))
        clear hk9 HC
        go_wp2
        exact bodyPost_ret (v := .tuple #[.agg #[.string ⟨#[]⟩, .int .i64 0], .bool false]) (by simp [results, Tryd.results45, go_sem, f0, f1, y0, y1]) rfl ⟨⟨(⟨#[]⟩, 0), by rw [HIF.out], fun h => by rw [HIF.out] at h; cases h⟩, HB9.out⟩
    · have gi : (so.toList == r.txt.toList) = false := bneq his
      by_cases hon : r.when_ = 1
      · have go1 : (r.when_ == 1) = true := by simpa using hon
        have HIF : Hid (ifR r.v line it ws = false) := by show _ = _; rw [HIF0.out]; simp [his, hon]
        clear his hon HIF0
        have q1 := cell_regrown k1
        have q2 := cell_regrown k2
        have q3 := cell_regrown k3
        have q4 := cell_regrown k4
        have q5 := cell_regrown k5
        have q6 := cell_regrown k6
        have y0 := cell_regrown x0
        have y1 := cell_regrown x1
        have y2 := cell_regrown x2
        refine wp_region_quiet_below (by kernel_rfl) (by kernel_rfl) ?_
        repeat (go_big_quiet_step (first | (go_at_call 67; exact Calls.regrown_of (HC.out _ (HB3.out.trans ((below_regrown _ _ _).mono HB3.out.size))))))
        refine wpQuiet_nil ?_
        intro _ hw'
        obtain ⟨⟨dq, osq⟩, hw''⟩ := hw'
        subst hw''
        have hbg := below_regrown W3 dq osq
        have HB4 := hide (HB3.out.trans (hbg.mono HB3.out.size))
        have HBR4 := hide (HBR3.out.later hbg)
        have HBK4 := hide (HBK3.out.later hbg)
        have HBX4 := hide (HBX3.out.later hbg)
        clear q1 q2 q3 q4 q5 q6 y0 y1 y2 hbg
        generalize Go.Sort.grow (redrawn W3 dq) osq = W4 at *
        have c0 := HBR4.out.get (j := 0) rfl
        have c1 := HBR4.out.get (j := 1) rfl
        have z0 := HBR4.out.fz 0
        have z1 := HBR4.out.fz 1
        have hk9 := (HBR4.out.set (k := 0) (u := .string ⟨#[]⟩) (.string ⟨#[]⟩) rfl).set (k := 1) (u := .int .i64 0) (.int .i64 0) rfl
        have f0 := hk9.get (j := 0) rfl
        have f1 := hk9.get (j := 1) rfl
        have y0 := hk9.fz 0
        have y1 := hk9.fz 1
        have HB9 := hide ((HB4.out.setCell (p := ⟨w.heap.size + 1 + 1, 0, none⟩) (by show w.heap.size ≤ w.heap.size + 1 + 1; omega) (.string ⟨#[]⟩)).setCell (p := ⟨w.heap.size + 1 + 1, 1, none⟩) (by show w.heap.size ≤ w.heap.size + 1 + 1; omega) (.int .i64 0))
        clear hk9 HC
        go_wp2
        exact bodyPost_ret (v := .tuple #[.agg #[.string ⟨#[]⟩, .int .i64 0], .bool false]) (by simp [results, Tryd.results45, go_sem, f0, f1, y0, y1]) rfl ⟨⟨(⟨#[]⟩, 0), by rw [HIF.out], fun h => by rw [HIF.out] at h; cases h⟩, HB9.out⟩
      · have go1 : (r.when_ == 1) = false := by simpa using hon
        have HIF : Hid (ifR r.v line it ws = true) := by show _ = _; rw [HIF0.out]; simp [his, hon]
        clear his hon HIF0
        have q1 := cell_regrown k1
        have q2 := cell_regrown k2
        have q3 := cell_regrown k3
        have q4 := cell_regrown k4
        have q5 := cell_regrown k5
        have q6 := cell_regrown k6
        have y0 := cell_regrown x0
        have y1 := cell_regrown x1
        have y2 := cell_regrown x2
        refine wp_region_quiet_below (by kernel_rfl) (by kernel_rfl) ?_
        repeat (go_big_quiet_step (first | (go_at_call 67; exact Calls.regrown_of (HC.out _ (HB3.out.trans ((below_regrown _ _ _).mono HB3.out.size))))))
        refine wpQuiet_nil ?_
        intro _ hw'
        obtain ⟨⟨dq, osq⟩, hw''⟩ := hw'
        subst hw''
        have hbg := below_regrown W3 dq osq
        have HB4 := hide (HB3.out.trans (hbg.mono HB3.out.size))
        have HBR4 := hide (HBR3.out.later hbg)
        have HBK4 := hide (HBK3.out.later hbg)
        have HBX4 := hide (HBX3.out.later hbg)
        clear q1 q2 q3 q4 q5 q6 y0 y1 y2 hbg
        generalize Go.Sort.grow (redrawn W3 dq) osq = W4 at *
        clear k0 k1 k2 k3 k4 k5 k6 k7 k8 k9 k10 k11 k12 k13 k14 x0 x1 x2 HC
        have k7' := HBK4.out.get (j := 7) rfl
        have k8' := HBK4.out.get (j := 8) rfl
        have k9' := HBK4.out.get (j := 9) rfl
        have k10' := HBK4.out.get (j := 10) rfl
        have x0' := HBX4.out.get (j := 0) rfl
        have x1' := HBX4.out.get (j := 1) rfl
        have x2' := HBX4.out.get (j := 2) rfl
        go_wp2_with fail
        refine (HSK.out _ HB4.out).mono ?_
        rintro e w5 ⟨rfl, b5⟩
        replace HB4 := hide (HB4.out.trans (b5.mono HB4.out.size))
        replace HBR4 := hide (HBR4.out.later b5)
        replace HBK4 := hide (HBK4.out.later b5)
        replace HBX4 := hide (HBX4.out.later b5)
        clear b5 HSK k7' k8' k9' k10' x0' x1' x2'
        go_upto_region 4 with (fail)
        have k11' := cell_regrown (HBK4.out.get (j := 11) rfl)
        have k12' := cell_regrown (HBK4.out.get (j := 12) rfl)
        have k13' := cell_regrown (HBK4.out.get (j := 13) rfl)
        have k14' := cell_regrown (HBK4.out.get (j := 14) rfl)
        have x0' := cell_regrown (HBX4.out.get (j := 0) rfl)
        have x1' := cell_regrown (HBX4.out.get (j := 1) rfl)
        have x2' := cell_regrown (HBX4.out.get (j := 2) rfl)
        have HPR : Hid (pairR r.v kind line it ws = (cut20 (strE r.key.tree line it ws), first kind (intE r.val.tree line it ws))) := rfl
        obtain ⟨ks, hks⟩ : ∃ ks, strE r.key.tree line it ws = ks := ⟨_, rfl⟩
        obtain ⟨vi, hvi⟩ : ∃ vi, intE r.val.tree line it ws = vi := ⟨_, rfl⟩
        rw [hks, hvi] at HPR
        rw [hks]
        rw [hvi] at HSV
        clear hks hvi
        have m1 : (0 : Int) ≤ min (ks.size : Int) 20 := by omega
        have m2 : min (ks.size : Int) 20 ≤ (ks.size : Int) := by omega
        refine wp_region_below_tail 12 (by kernel_rfl) (by kernel_rfl) ?_
        simp only [List.take_succ_cons, List.take_zero, List.drop_succ_cons, List.drop_zero]
        repeat (go_big_quiet_step (first | (go_at_call 69; exact Calls.regrown_of (HSV.out _ (HB4.out.trans ((below_regrown _ _ _).mono HB4.out.size)))) | (go_at_call 68; exact regrown_same (First_any _ _ _))))
        refine wpQuiet_nil ?_
        intro _ hw'
        obtain ⟨⟨dq, osq⟩, hw''⟩ := hw'
        subst hw''
        have hbg := below_regrown w5 dq osq
        replace HB4 := hide (HB4.out.trans (hbg.mono HB4.out.size))
        replace HBR4 := hide (HBR4.out.later hbg)
        clear k11' k12' k13' k14' x0' x1' x2' HBK4 HBX4 hbg HSV m1 m2
        generalize Go.Sort.grow (redrawn w5 dq) osq = W6 at *
        have c0 := HBR4.out.get (j := 0) rfl
        have c1 := HBR4.out.get (j := 1) rfl
        have z0 := HBR4.out.fz 0
        have z1 := HBR4.out.fz 1
        have hk9 := (HBR4.out.set (k := 0) (u := .string ⟨#[]⟩) (.string (ks.extract 0 (min (ks.size : Int) 20).toNat)) rfl).set (k := 1) (u := .int .i64 0) (.int .i64 (first kind vi)) rfl
        have f0 := hk9.get (j := 0) rfl
        have f1 := hk9.get (j := 1) rfl
        have y0 := hk9.fz 0
        have y1 := hk9.fz 1
        have HB9 := hide ((HB4.out.setCell (p := ⟨w.heap.size + 1 + 1, 0, none⟩) (by show w.heap.size ≤ w.heap.size + 1 + 1; omega) (.string (ks.extract 0 (min (ks.size : Int) 20).toNat))).setCell (p := ⟨w.heap.size + 1 + 1, 1, none⟩) (by show w.heap.size ≤ w.heap.size + 1 + 1; omega) (.int .i64 (first kind vi)))
        have HCU : Hid (ks.extract 0 (min (ks.size : Int) 20).toNat = cut20 ks) := by show _ = _; unfold cut20; congr 1; omega
        clear hk9
        go_wp2
        exact bodyPost_ret (v := .tuple #[.agg #[.string (ks.extract 0 (min (ks.size : Int) 20).toNat), .int .i64 (first kind vi)], .bool true]) (by simp [results, Tryd.results45, go_sem, f0, f1, y0, y1]) rfl ⟨⟨(cut20 ks, first kind vi), by rw [HIF.out, HCU.out], fun _ => by rw [HPR.out]⟩, HB9.out⟩
end Go.Proofs.YtjkggijkccbcpaaDoor
