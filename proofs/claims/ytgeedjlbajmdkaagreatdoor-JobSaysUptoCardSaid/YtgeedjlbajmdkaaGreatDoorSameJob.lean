/- Two jobs: the same one (threshfloorref.SameExpr, SameJob). -/
import Derived.Test.YtgeedjlbajmdkaaGreatDoorJobCheck2
import Derived.Lib.QuietBelow
set_option linter.unusedSimpArgs false
set_option linter.unusedVariables false
namespace Go.Proofs.YtgeedjlbajmdkaaGreatDoor
open Go.RowKit

set_option maxRecDepth 100000 in
set_option maxHeartbeats 1000000 in
theorem SameExpr_refl (d : Nat) : ∀ (k n : Int) (s : ByteArray) (a : List ExprV) (ao bo : Option Addr) (ca cb : Nat) (w : World), ExAt w d (.mk k n s a) (encX k n s ao a.length ca) → ExAt w d (.mk k n s a) (encX k n s bo a.length cb) →
    Calls Tryz.prog 60 #[.agg #[.int .i64 k, .int .i64 n, .string s, .slice ao a.length ca], .agg #[.int .i64 k, .int .i64 n, .string s, .slice bo a.length cb]] w fun e w' => e = .returned (.bool true) ∧ Below w.heap.size w w' := by
  induction d with
  | zero => intro _ _ _ _ _ _ _ _ _ h; exact h.elim
  | succ d ih =>
    intro k n s a ao bo ca cb w h h2
    have IH := hide ih
    obtain ⟨ao', cap', he, hk, hn, hs, ha, hkids⟩ := h
    obtain ⟨rfl, rfl⟩ : ao = ao' ∧ ca = cap' := by simp [encX] at he; exact ⟨he.1, he.2⟩
    obtain ⟨bo', cap2, he2, _, _, _, _, hkids2⟩ := h2
    obtain ⟨rfl, rfl⟩ : bo = bo' ∧ cb = cap2 := by simp [encX] at he2; exact ⟨he2.1, he2.2⟩
    clear he he2 ih
    obtain ⟨W1, hW1⟩ : ∃ W, W = w.alloc (.cells #[.int .i64 k, .int .i64 n, .string s, .slice ao a.length ca] 67) := ⟨_, rfl⟩
    have hb1 : Below w.heap.size w W1 := by rw [hW1]; exact (Below.refl _ _).alloc (Nat.le_refl _) _
    have hk1 : Bk W1 w.heap.size [.int .i64 k, .int .i64 n, .string s, .slice ao a.length ca] := by rw [hW1]; exact Bk.new rfl
    have hz1 : W1.heap.size = w.heap.size + 1 := by rw [hW1]; simp
    obtain ⟨W2, hW2⟩ : ∃ W, W = W1.alloc (.cells #[.int .i64 k, .int .i64 n, .string s, .slice bo a.length cb] 67) := ⟨_, rfl⟩
    have hb2 : Below W1.heap.size W1 W2 := by rw [hW2]; exact (Below.refl _ _).alloc (Nat.le_refl _) _
    have hk2 : Bk W2 (w.heap.size + 1) [.int .i64 k, .int .i64 n, .string s, .slice bo a.length cb] := by rw [hW2, ← hz1]; exact Bk.new rfl
    have hb12 : Below w.heap.size w W2 := hb1.trans (hb2.mono (by omega))
    have HA := hide (hk1.later hb2)
    have HB2 := hide hk2
    have HKA := hide (hkids.mono (E' := ExAt W2 d) (fun x q hq => hq.later hb12 (Nat.le_refl _)) hb12 (Nat.le_refl _))
    have HKB := hide (hkids2.mono (E' := ExAt W2 d) (fun x q hq => hq.later hb12 (Nat.le_refl _)) hb12 (Nat.le_refl _))
    have HB := hide hb12
    have HW1 := hide hW1
    have HW2 := hide hW2
    clear hW1 hW2 hb1 hk1 hz1 hb2 hk2 hb12 hkids hkids2
    have c0 := HA.out.get (j := 0) rfl
    have c1 := HA.out.get (j := 1) rfl
    have c2 := HA.out.get (j := 2) rfl
    have c3 := HA.out.get (j := 3) rfl
    have d0 := HB2.out.get (j := 0) rfl
    have d1 := HB2.out.get (j := 1) rfl
    have d2 := HB2.out.get (j := 2) rfl
    have d3 := HB2.out.get (j := 3) rfl
    have m1 : (k != k) = false := by simp
    have m2 : (n != n) = false := by simp
    have m3 := beqq s
    have m4 : ((a.length : Int) != (a.length : Int)) = false := by simp
    unfold maxLen at hs ha
    go_enter Tryz.func60, Tryz.ntmps60
    go_upto_region 1 with (fail)
    rw [← HW1.out, ← HW2.out]
    clear HW1 HW2
    go_wp2
    clear c0 c1 c2 d0 d1 d2
    go_loopw [5] (fun iv wr => ∃ j : Nat, j ≤ a.length ∧ iv = .int .i64 j ∧ Hid (Below W2.heap.size W2 wr)) (fun iv _ => a.length - (intOf iv).toNat)
    case atStart => exact ⟨0, by omega, rfl, Below.refl _ _⟩
    case round =>
      obtain ⟨j, hj, rfl, HBR⟩ := hrel
      have k3 := cell_later HBR.out c3
      have l3 := cell_later HBR.out d3
      by_cases hlt : j < a.length
      · obtain ⟨b, off, d', k', n', s', l', ao', cap', rfl, hbs, rfl, hx, hex, g0, g1, g2, g3⟩ := (HKA.out.mono (fun x q hq => hq.later HBR.out (Nat.le_refl _)) HBR.out (Nat.le_refl _)).kid hlt
        obtain ⟨b', off', d'', k2, n2, s2, l2, ao2, cap2, rfl, hbs2, e2, hx2, hex2, h0, h1, h2, h3⟩ := (HKB.out.mono (fun x q hq => hq.later HBR.out (Nat.le_refl _)) HBR.out (Nat.le_refl _)).kid hlt
        cases e2
        rw [hx] at hx2
        cases hx2
        have HX := hide fun w' (hb : Below wr.heap.size wr w') => IH.out k' n' s' l' ao' ao2 cap' cap2 w' (hex.later hb (Nat.le_refl _)) (hex2.later hb (Nat.le_refl _))
        have f1 : (0 : Int) ≤ (j : Int) ∧ (j : Int) < (a.length : Int) := by omega
        obtain ⟨f1, f2⟩ := f1
        have u3 := cell_regrown k3
        have v3 := cell_regrown l3
        have u4 := cell_regrown g0
        have u5 := cell_regrown g1
        have u6 := cell_regrown g2
        have u7 := cell_regrown g3
        have v4 := cell_regrown h0
        have v5 := cell_regrown h1
        have v6 := cell_regrown h2
        have v7 := cell_regrown h3
        clear hx hex hex2 g0 g1 g2 g3 h0 h1 h2 h3
        go_upto_region 6 with (fail)
        refine wp_region_quiet_below (by kernel_rfl) (by kernel_rfl) ?_
        repeat (go_big_quiet_step ((go_at_call 60; exact Calls.regrown_of (HX.out _ (below_regrown _ _ _)))))
        refine wpQuiet_nil ?_
        intro _ hw'
        obtain ⟨⟨dq, osq⟩, hw''⟩ := hw'
        subst hw''
        have HB4 := hide (HBR.out.trans ((below_regrown wr dq osq).mono HBR.out.size))
        clear u3 v3 u4 u5 u6 u7 v4 v5 v6 v7 HX
        go_wp2
        go_roundw
        case rel => exact ⟨j + 1, by omega, by go_num, HB4⟩
        case measure => (simp [intOf]; try omega)
      · have g5 : decide ((j : Int) < (a.length : Int)) = false := by simp; omega
        have HBF := hide (HB.out.trans (HBR.out.mono HB.out.size))
        go_wp2
        go_ret
        exact ⟨rfl, HBF.out⟩
theorem SameX_refl (r q : ExR) (d d2 : Nat) (w : World) (h : ExAt w d r.tree r.cells) (h2 : ExAt w d2 q.tree q.cells) (e : r.tree = q.tree) :
    Calls Tryz.prog 60 #[r.agg, q.agg] w fun e w' => e = .returned (.bool true) ∧ Below w.heap.size w w' := by
  obtain ⟨k, n, s, ao, ca, a⟩ := r
  obtain ⟨k2, n2, s2, bo, cb, b⟩ := q
  simp only [ExR.tree, ExprV.mk.injEq] at e
  obtain ⟨rfl, rfl, rfl, rfl⟩ := e
  exact SameExpr_refl (max d d2) k n s a ao bo ca cb w (h.more (Nat.le_max_left _ _)) (h2.more (Nat.le_max_right _ _))
set_option maxRecDepth 100000 in
set_option maxHeartbeats 4000000 in
theorem SameJob_refl (ao bo : Option Addr) (ca cb : Nat) (rs qs : List RuleR) (fold slices : Int) (early : Bool) (w : World) (hl : rs.length ≤ 1000) (hs : Sl 15 encRule w ao rs) (ht : Sl 15 encRule w bo qs) (hr : ∀ r ∈ rs, ∃ d, RuleAt w d r) (hq : ∀ r ∈ qs, ∃ d, RuleAt w d r) (hv : rs.map RuleR.v = qs.map RuleR.v) :
    Calls Tryz.prog 15 #[.agg #[.slice ao rs.length ca, .int .i64 fold, .bool early, .int .i64 slices], .agg #[.slice bo qs.length cb, .int .i64 fold, .bool early, .int .i64 slices]] w fun e w' => e = .returned (.bool true) ∧ Below w.heap.size w w' := by
  have hlen : rs.length = qs.length := by have h := congrArg List.length hv; simpa using h
  obtain ⟨W1, hW1⟩ : ∃ W, W = w.alloc (.cells #[.slice ao rs.length ca, .int .i64 fold, .bool early, .int .i64 slices] 24) := ⟨_, rfl⟩
  have hb1 : Below w.heap.size w W1 := by rw [hW1]; exact (Below.refl _ _).alloc (Nat.le_refl _) _
  have hk1 : Bk W1 w.heap.size [.slice ao rs.length ca, .int .i64 fold, .bool early, .int .i64 slices] := by rw [hW1]; exact Bk.new rfl
  have hz1 : W1.heap.size = w.heap.size + 1 := by rw [hW1]; simp
  obtain ⟨W2, hW2⟩ : ∃ W, W = W1.alloc (.cells #[.slice bo rs.length cb, .int .i64 fold, .bool early, .int .i64 slices] 24) := ⟨_, rfl⟩
  have hb2 : Below W1.heap.size W1 W2 := by rw [hW2]; exact (Below.refl _ _).alloc (Nat.le_refl _) _
  have hk2 : Bk W2 (w.heap.size + 1) [.slice bo rs.length cb, .int .i64 fold, .bool early, .int .i64 slices] := by rw [hW2, ← hz1]; exact Bk.new rfl
  have hb12 : Below w.heap.size w W2 := hb1.trans (hb2.mono (by omega))
  rw [← hlen]
  have HA := hide (hk1.later hb2)
  have HB2 := hide hk2
  have HS := hide hs
  have HT := hide ht
  have HR := hide hr
  have HQ := hide hq
  have HV := hide hv
  have HLEN := hide hlen
  have HB := hide hb12
  have HW1 := hide hW1
  have HW2 := hide hW2
  clear hW1 hW2 hb1 hk1 hz1 hb2 hk2 hb12 hs ht hr hq hv hlen
  have c0 := HA.out.get (j := 0) rfl
  have c1 := HA.out.get (j := 1) rfl
  have c2 := HA.out.get (j := 2) rfl
  have c3 := HA.out.get (j := 3) rfl
  have d0 := HB2.out.get (j := 0) rfl
  have d1 := HB2.out.get (j := 1) rfl
  have d2 := HB2.out.get (j := 2) rfl
  have d3 := HB2.out.get (j := 3) rfl
  have m1 : (fold != fold) = false := by simp
  have m2 : (slices != slices) = false := by simp
  have m3 : (early != early) = false := by simp
  have m4 : ((rs.length : Int) != (rs.length : Int)) = false := by simp
  go_enter Tryz.func15, Tryz.ntmps15
  go_upto_region 1 with (fail)
  rw [← HW1.out, ← HW2.out]
  clear HW1 HW2
  go_wp2
  clear c1 c2 c3 d1 d2 d3
  go_loopw [5] (fun iv wr => ∃ j : Nat, j ≤ rs.length ∧ iv = .int .i64 j ∧ Hid (Below W2.heap.size W2 wr)) (fun iv _ => rs.length - (intOf iv).toNat)
  case atStart => exact ⟨0, by omega, rfl, Below.refl _ _⟩
  case round =>
    obtain ⟨j, hj, rfl, HBR⟩ := hrel
    have k0' := cell_later HBR.out c0
    have l0' := cell_later HBR.out d0
    have HBF := hide (HB.out.trans (HBR.out.mono HB.out.size))
    by_cases hlt : j < rs.length
    · obtain ⟨b, off, r, rfl, hbw, hx, hc⟩ := (HS.out.later HBF.out (Nat.le_refl _)).rule hlt
      obtain ⟨b2, off2, q, rfl, hbw2, hx2, hc2⟩ := (HT.out.later HBF.out (Nat.le_refl _)).rule (k := j) (by rw [← HLEN.out]; exact hlt)
      obtain ⟨dr, hrd⟩ := HR.out r (List.mem_of_getElem? hx)
      obtain ⟨dq, hqd⟩ := HQ.out q (List.mem_of_getElem? hx2)
      have hrq : r.v = q.v := by
        have h1 : (rs.map RuleR.v)[j]? = some r.v := by rw [List.getElem?_map, hx]; rfl
        have h2 : (qs.map RuleR.v)[j]? = some q.v := by rw [List.getElem?_map, hx2]; rfl
        rw [HV.out, h2] at h1
        exact (Option.some.inj h1).symm
      have HRQ := hide hrq
      obtain ⟨eq1, eq2, eq3, eq4, eq5, eq6⟩ : r.each = q.each ∧ r.when_ = q.when_ ∧ r.cond.tree = q.cond.tree ∧ r.txt = q.txt ∧ r.key.tree = q.key.tree ∧ r.val.tree = q.val.tree := by
        have h := hrq
        simp only [RuleR.v, RuleV.mk.injEq] at h
        exact h
      have k0 : wr.cell? ⟨b, off + j * 15, none⟩ = some (.bool r.each) := hc 0 _ rfl
      have k1 := hc 1 _ rfl
      have k2 := hc 2 _ rfl
      have k3 := hc 3 _ rfl
      have k4 := hc 4 _ rfl
      have k5 := hc 5 _ rfl
      have k6 := hc 6 _ rfl
      have k7 := hc 7 _ rfl
      have k8 := hc 8 _ rfl
      have k9 := hc 9 _ rfl
      have k10 := hc 10 _ rfl
      have k11 := hc 11 _ rfl
      have k12 := hc 12 _ rfl
      have k13 := hc 13 _ rfl
      have k14 := hc 14 _ rfl
      have l0 : wr.cell? ⟨b2, off2 + j * 15, none⟩ = some (.bool q.each) := hc2 0 _ rfl
      have l1 := hc2 1 _ rfl
      have l2 := hc2 2 _ rfl
      have l3 := hc2 3 _ rfl
      have l4 := hc2 4 _ rfl
      have l5 := hc2 5 _ rfl
      have l6 := hc2 6 _ rfl
      have l7 := hc2 7 _ rfl
      have l8 := hc2 8 _ rfl
      have l9 := hc2 9 _ rfl
      have l10 := hc2 10 _ rfl
      have l11 := hc2 11 _ rfl
      have l12 := hc2 12 _ rfl
      have l13 := hc2 13 _ rfl
      have l14 := hc2 14 _ rfl
      have f1 : (0 : Int) ≤ (j : Int) ∧ (j : Int) < (rs.length : Int) := by omega
      obtain ⟨f1, f2⟩ := f1
      have HXC := hide fun w' (hb : Below w.heap.size w w') => SameX_refl r.cond q.cond dr dq w' (hrd.cond.later hb (Nat.le_refl _)) (hqd.cond.later hb (Nat.le_refl _)) eq3
      have HXK := hide fun w' (hb : Below w.heap.size w w') => SameX_refl r.key q.key dr dq w' (hrd.key.later hb (Nat.le_refl _)) (hqd.key.later hb (Nat.le_refl _)) eq5
      have HXV := hide fun w' (hb : Below w.heap.size w w') => SameX_refl r.val q.val dr dq w' (hrd.val.later hb (Nat.le_refl _)) (hqd.val.later hb (Nat.le_refl _)) eq6
      have HQ1 := hide eq1
      have HQ2 := hide eq2
      have HQ4 := hide eq4
      have n1 : (r.each != r.each) = false := by simp
      have n2 : (r.when_ != r.when_) = false := by simp
      have n3 := beqq r.txt
      unfold ExR.agg at HXC HXK HXV
      clear hx hx2 hrd hqd hrq eq1 eq2 eq3 eq4 eq5 eq6 hc hc2
      go_upto_region 7 with (fail)
      have hbA : Below wr.heap.size wr (wr.alloc (.cells #[.bool r.each, .int .i64 r.when_, .int .i64 r.cond.k, .int .i64 r.cond.n, .string r.cond.s, .slice r.cond.ao r.cond.a.length r.cond.cap, .string r.txt, .int .i64 r.key.k, .int .i64 r.key.n, .string r.key.s, .slice r.key.ao r.key.a.length r.key.cap, .int .i64 r.val.k, .int .i64 r.val.n, .string r.val.s, .slice r.val.ao r.val.a.length r.val.cap] 69)) := (Below.refl _ _).alloc (Nat.le_refl _) _
      have hkA : Bk (wr.alloc (.cells #[.bool r.each, .int .i64 r.when_, .int .i64 r.cond.k, .int .i64 r.cond.n, .string r.cond.s, .slice r.cond.ao r.cond.a.length r.cond.cap, .string r.txt, .int .i64 r.key.k, .int .i64 r.key.n, .string r.key.s, .slice r.key.ao r.key.a.length r.key.cap, .int .i64 r.val.k, .int .i64 r.val.n, .string r.val.s, .slice r.val.ao r.val.a.length r.val.cap] 69)) wr.heap.size (encRule r) := Bk.new rfl
      have hzA : (wr.alloc (.cells #[.bool r.each, .int .i64 r.when_, .int .i64 r.cond.k, .int .i64 r.cond.n, .string r.cond.s, .slice r.cond.ao r.cond.a.length r.cond.cap, .string r.txt, .int .i64 r.key.k, .int .i64 r.key.n, .string r.key.s, .slice r.key.ao r.key.a.length r.key.cap, .int .i64 r.val.k, .int .i64 r.val.n, .string r.val.s, .slice r.val.ao r.val.a.length r.val.cap] 69)).heap.size = wr.heap.size + 1 := by simp
      replace l0' := cell_later hbA l0'
      replace l0 := cell_later hbA l0
      replace l1 := cell_later hbA l1
      replace l2 := cell_later hbA l2
      replace l3 := cell_later hbA l3
      replace l4 := cell_later hbA l4
      replace l5 := cell_later hbA l5
      replace l6 := cell_later hbA l6
      replace l7 := cell_later hbA l7
      replace l8 := cell_later hbA l8
      replace l9 := cell_later hbA l9
      replace l10 := cell_later hbA l10
      replace l11 := cell_later hbA l11
      replace l12 := cell_later hbA l12
      replace l13 := cell_later hbA l13
      replace l14 := cell_later hbA l14
      have HBA := hide hbA
      have HKA := hide hkA
      have HZA := hide hzA
      clear hbA hkA hzA
      clear k0
      clear k1
      clear k2
      clear k3
      clear k4
      clear k5
      clear k6
      clear k7
      clear k8
      clear k9
      clear k10
      clear k11
      clear k12
      clear k13
      clear k14
      generalize wr.alloc (.cells #[.bool r.each, .int .i64 r.when_, .int .i64 r.cond.k, .int .i64 r.cond.n, .string r.cond.s, .slice r.cond.ao r.cond.a.length r.cond.cap, .string r.txt, .int .i64 r.key.k, .int .i64 r.key.n, .string r.key.s, .slice r.key.ao r.key.a.length r.key.cap, .int .i64 r.val.k, .int .i64 r.val.n, .string r.val.s, .slice r.val.ao r.val.a.length r.val.cap] 69) = W3 at *
      go_upto_region 8 with (fail)
      rw [HZA.out]
      have hbB : Below W3.heap.size W3 (W3.alloc (.cells #[.bool q.each, .int .i64 q.when_, .int .i64 q.cond.k, .int .i64 q.cond.n, .string q.cond.s, .slice q.cond.ao q.cond.a.length q.cond.cap, .string q.txt, .int .i64 q.key.k, .int .i64 q.key.n, .string q.key.s, .slice q.key.ao q.key.a.length q.key.cap, .int .i64 q.val.k, .int .i64 q.val.n, .string q.val.s, .slice q.val.ao q.val.a.length q.val.cap] 69)) := (Below.refl _ _).alloc (Nat.le_refl _) _
      have hkB : Bk (W3.alloc (.cells #[.bool q.each, .int .i64 q.when_, .int .i64 q.cond.k, .int .i64 q.cond.n, .string q.cond.s, .slice q.cond.ao q.cond.a.length q.cond.cap, .string q.txt, .int .i64 q.key.k, .int .i64 q.key.n, .string q.key.s, .slice q.key.ao q.key.a.length q.key.cap, .int .i64 q.val.k, .int .i64 q.val.n, .string q.val.s, .slice q.val.ao q.val.a.length q.val.cap] 69)) (wr.heap.size + 1) (encRule q) := by rw [← HZA.out]; exact Bk.new rfl
      have HKB := hide hkB
      have HKA2 := hide (HKA.out.later hbB)
      have HB4 := hide (HBR.out.trans ((HBA.out.mono HBR.out.size).trans (hbB.mono (by have h1 := HBR.out.size; have h2 := HBA.out.size; omega))))
      clear hbB hkB HKA HBA l0'
      clear l0
      clear l1
      clear l2
      clear l3
      clear l4
      clear l5
      clear l6
      clear l7
      clear l8
      clear l9
      clear l10
      clear l11
      clear l12
      clear l13
      clear l14
      generalize W3.alloc (.cells #[.bool q.each, .int .i64 q.when_, .int .i64 q.cond.k, .int .i64 q.cond.n, .string q.cond.s, .slice q.cond.ao q.cond.a.length q.cond.cap, .string q.txt, .int .i64 q.key.k, .int .i64 q.key.n, .string q.key.s, .slice q.key.ao q.key.a.length q.key.cap, .int .i64 q.val.k, .int .i64 q.val.n, .string q.val.s, .slice q.val.ao q.val.a.length q.val.cap] 69) = W4 at *
      have HBF4 := hide (HB.out.trans (HB4.out.mono HB.out.size))
      have k0 := HKA2.out.get (j := 0) rfl
      have l0 := HKB.out.get (j := 0) rfl
      have k1 := HKA2.out.get (j := 1) rfl
      have l1 := HKB.out.get (j := 1) rfl
      have k2 := HKA2.out.get (j := 2) rfl
      have l2 := HKB.out.get (j := 2) rfl
      have k3 := HKA2.out.get (j := 3) rfl
      have l3 := HKB.out.get (j := 3) rfl
      have k4 := HKA2.out.get (j := 4) rfl
      have l4 := HKB.out.get (j := 4) rfl
      have k5 := HKA2.out.get (j := 5) rfl
      have l5 := HKB.out.get (j := 5) rfl
      have k6 := HKA2.out.get (j := 6) rfl
      have l6 := HKB.out.get (j := 6) rfl
      have k7 := HKA2.out.get (j := 7) rfl
      have l7 := HKB.out.get (j := 7) rfl
      have k8 := HKA2.out.get (j := 8) rfl
      have l8 := HKB.out.get (j := 8) rfl
      have k9 := HKA2.out.get (j := 9) rfl
      have l9 := HKB.out.get (j := 9) rfl
      have k10 := HKA2.out.get (j := 10) rfl
      have l10 := HKB.out.get (j := 10) rfl
      have k11 := HKA2.out.get (j := 11) rfl
      have l11 := HKB.out.get (j := 11) rfl
      have k12 := HKA2.out.get (j := 12) rfl
      have l12 := HKB.out.get (j := 12) rfl
      have k13 := HKA2.out.get (j := 13) rfl
      have l13 := HKB.out.get (j := 13) rfl
      have k14 := HKA2.out.get (j := 14) rfl
      have l14 := HKB.out.get (j := 14) rfl
      rw [← HQ1.out] at l0
      rw [← HQ2.out] at l1
      rw [← HQ4.out] at l6
      go_wp2_with fail
      refine (HXC.out _ HBF4.out).mono ?_
      rintro e w5 ⟨rfl, b5⟩
      replace k0 := cell_later b5 k0
      replace l0 := cell_later b5 l0
      replace k1 := cell_later b5 k1
      replace l1 := cell_later b5 l1
      replace k2 := cell_later b5 k2
      replace l2 := cell_later b5 l2
      replace k3 := cell_later b5 k3
      replace l3 := cell_later b5 l3
      replace k4 := cell_later b5 k4
      replace l4 := cell_later b5 l4
      replace k5 := cell_later b5 k5
      replace l5 := cell_later b5 l5
      replace k6 := cell_later b5 k6
      replace l6 := cell_later b5 l6
      replace k7 := cell_later b5 k7
      replace l7 := cell_later b5 l7
      replace k8 := cell_later b5 k8
      replace l8 := cell_later b5 l8
      replace k9 := cell_later b5 k9
      replace l9 := cell_later b5 l9
      replace k10 := cell_later b5 k10
      replace l10 := cell_later b5 l10
      replace k11 := cell_later b5 k11
      replace l11 := cell_later b5 l11
      replace k12 := cell_later b5 k12
      replace l12 := cell_later b5 l12
      replace k13 := cell_later b5 k13
      replace l13 := cell_later b5 l13
      replace k14 := cell_later b5 k14
      replace l14 := cell_later b5 l14
      have HB5 := hide (HB4.out.trans (b5.mono HB4.out.size))
      have HBF5 := hide (HB.out.trans (HB5.out.mono HB.out.size))
      clear b5 HXC HB4 HBF4
      go_wp2_with fail
      refine (HXK.out _ HBF5.out).mono ?_
      rintro e w6 ⟨rfl, b6⟩
      replace k0 := cell_later b6 k0
      replace l0 := cell_later b6 l0
      replace k1 := cell_later b6 k1
      replace l1 := cell_later b6 l1
      replace k2 := cell_later b6 k2
      replace l2 := cell_later b6 l2
      replace k3 := cell_later b6 k3
      replace l3 := cell_later b6 l3
      replace k4 := cell_later b6 k4
      replace l4 := cell_later b6 l4
      replace k5 := cell_later b6 k5
      replace l5 := cell_later b6 l5
      replace k6 := cell_later b6 k6
      replace l6 := cell_later b6 l6
      replace k7 := cell_later b6 k7
      replace l7 := cell_later b6 l7
      replace k8 := cell_later b6 k8
      replace l8 := cell_later b6 l8
      replace k9 := cell_later b6 k9
      replace l9 := cell_later b6 l9
      replace k10 := cell_later b6 k10
      replace l10 := cell_later b6 l10
      replace k11 := cell_later b6 k11
      replace l11 := cell_later b6 l11
      replace k12 := cell_later b6 k12
      replace l12 := cell_later b6 l12
      replace k13 := cell_later b6 k13
      replace l13 := cell_later b6 l13
      replace k14 := cell_later b6 k14
      replace l14 := cell_later b6 l14
      have HB6 := hide (HB5.out.trans (b6.mono HB5.out.size))
      have HBF6 := hide (HB.out.trans (HB6.out.mono HB.out.size))
      clear b6 HXK HB5 HBF5
      go_wp2_with fail
      refine (HXV.out _ HBF6.out).mono ?_
      rintro e w7 ⟨rfl, b7⟩
      replace k0 := cell_later b7 k0
      replace l0 := cell_later b7 l0
      replace k1 := cell_later b7 k1
      replace l1 := cell_later b7 l1
      replace k2 := cell_later b7 k2
      replace l2 := cell_later b7 l2
      replace k3 := cell_later b7 k3
      replace l3 := cell_later b7 l3
      replace k4 := cell_later b7 k4
      replace l4 := cell_later b7 l4
      replace k5 := cell_later b7 k5
      replace l5 := cell_later b7 l5
      replace k6 := cell_later b7 k6
      replace l6 := cell_later b7 l6
      replace k7 := cell_later b7 k7
      replace l7 := cell_later b7 l7
      replace k8 := cell_later b7 k8
      replace l8 := cell_later b7 l8
      replace k9 := cell_later b7 k9
      replace l9 := cell_later b7 l9
      replace k10 := cell_later b7 k10
      replace l10 := cell_later b7 l10
      replace k11 := cell_later b7 k11
      replace l11 := cell_later b7 l11
      replace k12 := cell_later b7 k12
      replace l12 := cell_later b7 l12
      replace k13 := cell_later b7 k13
      replace l13 := cell_later b7 l13
      replace k14 := cell_later b7 k14
      replace l14 := cell_later b7 l14
      have HB7 := hide (HB6.out.trans (b7.mono HB6.out.size))
      clear b7 HXV HB6 HBF6
      go_wp2
      go_roundw
      case rel => exact ⟨j + 1, by omega, by go_num, HB7⟩
      case measure => (simp [intOf]; try omega)
    · have g5 : decide ((j : Int) < (rs.length : Int)) = false := by simp; omega
      go_wp2
      go_ret
      exact ⟨rfl, HBF.out⟩
end Go.Proofs.YtgeedjlbajmdkaaGreatDoor
