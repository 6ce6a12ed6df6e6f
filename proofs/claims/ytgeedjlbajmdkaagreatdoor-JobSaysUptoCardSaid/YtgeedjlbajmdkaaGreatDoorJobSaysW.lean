/- JobSays: the law's walk. -/
import Derived.Test.YtgeedjlbajmdkaaGreatDoorJobOf
import Derived.Test.YtgeedjlbajmdkaaGreatDoorSameJob
import Derived.Test.YtgeedjlbajmdkaaGreatDoorLightJob
import Derived.Test.YtgeedjlbajmdkaaGreatDoorJobCheck
set_option linter.unusedSimpArgs false
set_option linter.unusedVariables false
namespace Go.Proofs.YtgeedjlbajmdkaaGreatDoor
open Go.RowKit

def cntT : List UInt8 := [99, 111, 117, 110, 116, 32, 49, 10, 101, 97, 99, 104, 32, 107, 101, 121, 32, 105, 116, 32, 118, 97, 108, 32, 110, 117, 109, 32, 49, 10]
def cntRule : RuleV := ⟨true, 0, blankX, tx [], .mk 1 0 (tx []) [], .mk 7 1 (tx []) []⟩
theorem cntT_job : jobF [cntRule] 4 1 = 0 ∧ cntT = jobT [cntRule] 4 1 false := ⟨by decide +kernel, by decide +kernel⟩
/-- the job of a text is one -/
theorem job_one {rs rs' : List RuleV} {f f' sl sl' : Int} {e e' : Bool} (h : jobF rs f sl = 0) (h' : jobF rs' f' sl' = 0) (ht : jobT rs f sl e = jobT rs' f' sl' e') : rs = rs' ∧ f = f' ∧ sl = sl' ∧ e = e' := by
  have h1 := readJob_text (early := e) h
  rw [ht, readJob_text h'] at h1
  simp only [Prod.mk.injEq] at h1
  exact ⟨h1.1.symm, h1.2.1.symm, h1.2.2.1.symm, h1.2.2.2.1.symm⟩
theorem same_self (n : Int) (w : World) (hn : 0 ≤ n) : Calls Tryz.prog 9 #[errV n, .int .i64 n] w fun e w' => e = .returned (.bool true) ∧ w = w' :=
  (same_any n n w hn).mono fun e w' h => ⟨by rw [h.1]; simp, h.2⟩
set_option maxRecDepth 100000 in
set_option maxHeartbeats 4000000 in
theorem jobs_any (w : World) (hg : GW w) : Calls Tryz.prog 6 #[] w fun e w' => e = .returned (.bool true) ∧ Below w.heap.size w w' := by
  have HP0 := hide (JobParse_any cntT w hg (by decide))
  have HG := hide fun w' (hb : Below w.heap.size w w') => hg.later hb (Nat.le_refl _)
  unfold JPost at HP0
  have HS := hide fun w' => same_self 0 w' (by decide)
  rw [errV_zero] at HS
  clear hg
  go_enter Tryz.func6, Tryz.ntmps6
  go_wp2_with fail
  refine HP0.out.mono ?_
  rintro e w2 ⟨hP, b2⟩
  rcases hP with ⟨ro0, rc0, rs0, f0, sl0, e0, ⟨h1, h2, _⟩, rfl, hjs⟩ | ⟨hno, rfl⟩
  case inr =>
    exfalso
    have := hno [cntRule] 4 1 false cntT_job.1 cntT_job.2
    revert this
    decide
  obtain ⟨hv, rfl, rfl, rfl⟩ := job_one h1 cntT_job.1 (h2.symm.trans cntT_job.2)
  have HL1 : Hid (rs0.length = 1) := by have := congrArg List.length hv; show _ = _; simpa using this
  have hb3 : Below w2.heap.size w2 (w2.alloc (.cells #[.slice ro0 rs0.length rc0, .int .i64 4, .bool false, .int .i64 1] 24)) := (Below.refl _ _).alloc (Nat.le_refl _) _
  have HX := hide (show Bk (w2.alloc (.cells #[.slice ro0 rs0.length rc0, .int .i64 4, .bool false, .int .i64 1] 24)) w2.heap.size [.slice ro0 rs0.length rc0, .int .i64 4, .bool false, .int .i64 1] from Bk.new rfl)
  have HJS := hide (hjs.kept (KeptBut.of_below (S := fun _ => False) hb3 (Nat.le_refl _)) fun _ _ h => h)
  have HB := hide (b2.trans (hb3.mono b2.size))
  clear hjs b2 HP0 hb3 h1 h2
  go_upto_region 3 with (fail)
  generalize w2.alloc (.cells #[.slice ro0 rs0.length rc0, .int .i64 4, .bool false, .int .i64 1] 24) = w3 at *
  obtain ⟨xb, hxb⟩ : ∃ xb, w2.heap.size = xb := ⟨_, rfl⟩
  rw [hxb] at HX ⊢
  clear hxb
  have HT := hide (Text_job ro0 rc0 rs0 4 1 false w3 (HG.out _ HB.out).toGT (by rw [HL1.out]; decide) HJS.out.sl (fun r hr => ⟨6, HJS.out.rule r hr⟩))
  rw [hv, show textOut [cntRule] 4 1 false = (cntT, 0) by decide +kernel] at HT
  dsimp only at HT
  rw [errV_zero] at HT
  have q0 := HX.out.get (j := 0) rfl
  have q1 := HX.out.get (j := 1) rfl
  have q2 := HX.out.get (j := 2) rfl
  have q3 := HX.out.get (j := 3) rfl
  clear hv
  go_wp2_with fail
  refine HT.out.mono ?_
  rintro e w4 ⟨rfl, b4⟩
  replace q0 := cell_later b4 q0
  replace q1 := cell_later b4 q1
  replace q2 := cell_later b4 q2
  replace q3 := cell_later b4 q3
  replace HB := hide (HB.out.trans (b4.mono HB.out.size))
  rw [HL1.out] at q0
  clear b4 HT HX HJS
  go_wp2_with fail
  refine (HS.out _).mono ?_
  rintro e w5 ⟨rfl, rfl⟩
  go_wp2_with fail
  refine (HS.out _).mono ?_
  rintro e w5 ⟨rfl, rfl⟩
  clear HS
  have t1 : ((⟨#[99, 111, 117, 110, 116, 32, 49, 10, 101, 97, 99, 104, 32, 107, 101, 121, 32, 105, 116, 32, 118, 97, 108, 32, 110, 117, 109, 32, 49, 10]⟩ : ByteArray).toList == (tx cntT).toList) = true := by decide +kernel
  have t2 : ([99, 111, 117, 110, 116, 32, 49, 10, 101, 97, 99, 104, 32, 107, 101, 121, 32, 105, 116, 32, 118, 97, 108, 32, 110, 117, 109, 32, 49, 10] == (tx cntT).toList) = true := by decide +kernel
  go_wp2
  go_ret
  exact ⟨ret_b (by first | rfl | simp), HB.out⟩
set_option maxRecDepth 100000 in
set_option maxHeartbeats 8000000 in
theorem JobSays_walk (ro : Option Addr) (rc : Nat) (rs : List RuleR) (fold slices : Int) (early : Bool) (s : List UInt8) (w : World) (hg : GW w) (hj : JobIn w ro rc rs fold slices) (hnd : ∀ r ∈ rs, r.cond.tree.nodes ≤ 2000000 ∧ r.key.tree.nodes ≤ 2000000 ∧ r.val.tree.nodes ≤ 2000000) (hs : s.length ≤ maxLen) :
    Calls Tryz.prog 3 #[.agg #[.slice ro rs.length rc, .int .i64 fold, .bool early, .int .i64 slices], .string (tx s)] w fun e w' => e = .returned (.bool true) ∧ Below w.heap.size w w' := by
  obtain ⟨W1, hW1⟩ : ∃ W, W = w.alloc (.cells #[.slice ro rs.length rc, .int .i64 fold, .bool early, .int .i64 slices] 24) := ⟨_, rfl⟩
  have hb1 : Below w.heap.size w W1 := by rw [hW1]; exact (Below.refl _ _).alloc (Nat.le_refl _) _
  have hbj : Bk W1 w.heap.size [.slice ro rs.length rc, .int .i64 fold, .bool early, .int .i64 slices] := by rw [hW1]; exact Bk.new rfl
  have HGB := hide fun w' (hb : Below w.heap.size w w') => hg.later hb (Nat.le_refl _)
  have HB := hide hb1
  have HBJ := hide hbj
  have HW1 := hide hW1
  have HRS := hide fun w' (hb : Below w.heap.size w w') => (⟨hj.sl.later hb (Nat.le_refl _), fun r hr => by obtain ⟨d, h⟩ := hj.at_ r hr; exact ⟨d, h.later hb (Nat.le_refl _)⟩⟩ : Sl 15 encRule w' ro rs ∧ ∀ r ∈ rs, ∃ d, RuleAt w' d r)
  have HLJ := hide fun w' (hb : Below w.heap.size w w') => LightJob_any ro rc rs fold slices early w' hj.len (HRS.out w' hb).1 (HRS.out w' hb).2
  have HTX := hide fun w' (hb : Below w.heap.size w w') => Text_job ro rc rs fold slices early w' (HGB.out w' hb).toGT hj.len (HRS.out w' hb).1 (HRS.out w' hb).2
  have HCK := hide fun w' (hb : Below w.heap.size w w') => jobCheck_any ro rc rs fold slices early w' hj.len (HRS.out w' hb).1 (HRS.out w' hb).2
  have HJF := hide fun w' (hb : Below w.heap.size w w') => JobFault_any ro rc rs fold slices early w' hj.len (HRS.out w' hb).1 (HRS.out w' hb).2 hnd
  have HRT := hide fun (h0 : jobF (rs.map RuleR.v) fold slices = 0) w' (hb : Below w.heap.size w w') => RefJobText_any ro rc rs fold slices early w' h0 (HRS.out w' hb).1 (HRS.out w' hb).2
  have HPS := hide fun w' (hb : Below w.heap.size w w') (h : s.length ≤ 1000) => JobParse_any s w' (HGB.out w' hb) (by omega)
  have HPO := hide fun w' (h : s.length ≤ 1000) => RefJobOf_any s w' (by omega)
  have HSM := hide fun (n : Int) (w' : World) (h : 0 ≤ n) => same_self n w' h
  have HJS0 := hide (jobs_any W1 (HGB.out _ hb1))
  have hjn := jobF_nn (rs.map RuleR.v) fold slices
  have hlr := hj.len
  obtain ⟨tt, ef, hto⟩ : ∃ tt ef, textOut (rs.map RuleR.v) fold slices early = (tt, ef) := ⟨_, _, rfl⟩
  rw [hto] at HTX HRT
  have HTO := hide hto
  obtain ⟨jf, hjf⟩ : ∃ jf, jobF (rs.map RuleR.v) fold slices = jf := ⟨_, rfl⟩
  rw [hjf] at HCK HJF HRT hjn
  have HJE := hide hjf
  unfold maxLen at hlr hs
  unfold SomeB at HLJ
  unfold JPost at HPS
  unfold OPost at HPO
  clear hb1 hbj hW1 hg hj hto hjf
  go_enter Tryz.func3, Tryz.ntmps3
  go_upto_region 1 with (fail)
  rw [← HW1.out]
  clear HW1
  go_wp2_with fail
  refine HJS0.out.mono ?_
  rintro e w2 ⟨rfl, b2⟩
  replace HB := hide (HB.out.trans (b2.mono HB.out.size))
  replace HBJ := hide (HBJ.out.later b2)
  have j0 := HBJ.out.get (j := 0) rfl
  have j1 := HBJ.out.get (j := 1) rfl
  have j2 := HBJ.out.get (j := 2) rfl
  have j3 := HBJ.out.get (j := 3) rfl
  clear HJS0 b2
  go_wp2_with fail
  refine (HLJ.out _ HB.out).mono ?_
  rintro e w3 ⟨⟨b, rfl⟩, b3⟩
  replace j0 := cell_later b3 j0
  replace j1 := cell_later b3 j1
  replace j2 := cell_later b3 j2
  replace j3 := cell_later b3 j3
  replace HB := hide (HB.out.trans (b3.mono HB.out.size))
  replace HBJ := hide (HBJ.out.later b3)
  clear b3 HLJ
  cases b with
  | false =>
    go_wp2
    go_ret
    exact ⟨rfl, HB.out⟩
  | true =>
  have hsz : (tx s).size = s.length := tx_size s
  by_cases h9 : 1000 < (tx s).size
  · clear hsz
    go_wp2
    go_ret
    exact ⟨rfl, HB.out⟩
  have hs9 : s.length ≤ 1000 := by omega
  clear hsz
  go_wp2_with fail
  refine (HJF.out _ HB.out).mono ?_
  rintro e w4 ⟨rfl, b4⟩
  replace j0 := cell_later b4 j0
  replace j1 := cell_later b4 j1
  replace j2 := cell_later b4 j2
  replace j3 := cell_later b4 j3
  replace HB := hide (HB.out.trans (b4.mono HB.out.size))
  replace HBJ := hide (HBJ.out.later b4)
  clear b4 HJF h9
  go_wp2_with fail
  refine (HCK.out _ HB.out).mono ?_
  rintro e w5 ⟨rfl, b5⟩
  replace j0 := cell_later b5 j0
  replace j1 := cell_later b5 j1
  replace j2 := cell_later b5 j2
  replace j3 := cell_later b5 j3
  replace HB := hide (HB.out.trans (b5.mono HB.out.size))
  replace HBJ := hide (HBJ.out.later b5)
  clear b5 HCK
  have HSJ := hide fun w' => HSM.out jf w' hjn
  go_wp2_with fail
  refine (HSJ.out _).mono ?_
  rintro e w6 ⟨rfl, rfl⟩
  go_wp2_with fail
  refine (HTX.out _ HB.out).mono ?_
  rintro e w7 ⟨rfl, b7⟩
  replace j0 := cell_later b7 j0
  replace j1 := cell_later b7 j1
  replace j2 := cell_later b7 j2
  replace j3 := cell_later b7 j3
  replace HB := hide (HB.out.trans (b7.mono HB.out.size))
  replace HBJ := hide (HBJ.out.later b7)
  clear b7 HTX
  have hef : 0 ≤ ef := by
    have h1 := HTO.out
    unfold textOut at h1
    split at h1
    · simp only [Prod.mk.injEq] at h1; rw [← h1.2, HJE.out]; exact hjn
    · split at h1
      · simp only [Prod.mk.injEq] at h1; omega
      · simp only [Prod.mk.injEq] at h1; omega
  have HSE := hide fun w' => HSM.out ef w' hef
  obtain ⟨cb, hcb⟩ : ∃ cb, decide (0 < jf) = cb := ⟨_, rfl⟩
  go_upto_if 41 with (fail)
  have HCB := hide hcb
  clear hcb
  go_cut [] from 42 to 63 (fun wd => Hid (Below w.heap.size w wd))
  case first =>
    cases cb with
    | true =>
      have h0 : jf ≠ 0 := by have := HCB.out; rw [decide_eq_true_eq] at this; omega
      have hte : tt = [] ∧ ef = jf := by
        have h1 := HTO.out
        unfold textOut at h1
        rw [if_pos (by rw [HJE.out]; exact h0), HJE.out] at h1
        simp only [Prod.mk.injEq] at h1
        exact ⟨h1.1.symm, h1.2.symm⟩
      obtain ⟨rfl, rfl⟩ := hte
      have t1 : ((tx []).toList == []) = true := by rw [tl, tx_list]; rfl
      clear HCB h0 HTO HJE
      go_wp2_with fail
      refine (HSE.out _).mono ?_
      rintro e w8 ⟨rfl, rfl⟩
      go_wp2
      go_meet
      exact HB
    | false =>
      have h0 : jf = 0 := by have := HCB.out; rw [decide_eq_false_iff_not] at this; omega
      have HRT2 := hide (HRT.out h0)
      have t1 : ((tx tt).toList == (tx tt).toList) = true := beqq _
      clear HCB h0 HTO HJE HRT
      go_wp2_with fail
      refine (HRT2.out _ HB.out).mono ?_
      rintro e w8 ⟨rfl, b8⟩
      replace HB := hide (HB.out.trans (b8.mono HB.out.size))
      clear b8 HRT2
      go_wp2_with fail
      refine (HSE.out _).mono ?_
      rintro e w9 ⟨rfl, rfl⟩
      go_wp2
      go_meet
      exact HB
  case rest =>
  clear HB HTO HJE HSE HSJ HRT HCB hef hjn HRS HBJ j0 j1 j2 j3
  have HB := hcut
  clear hcut
  obtain ⟨ec, hec⟩ : ∃ ec : Int, (if 800 < s.length then 2 else 4) = ec := ⟨_, rfl⟩
  have hec0 : 0 ≤ ec := by rw [← hec]; split <;> omega
  rw [hec] at HPS HPO
  clear hec
  go_wp2_with fail
  refine (HPS.out _ HB.out hs9).mono ?_
  rintro e w10 ⟨hP, b10⟩
  have HB1 := hide (HB.out.trans (b10.mono HB.out.size))
  rcases hP with ⟨ro1, rc1, rs1, f1, sl1, e1, ⟨h1, h2, h3⟩, rfl, hjs⟩ | ⟨hno, rfl⟩
  case inl =>
    have hb11 : Below w10.heap.size w10 (w10.alloc (.cells #[.slice ro1 rs1.length rc1, .int .i64 f1, .bool e1, .int .i64 sl1] 24)) := (Below.refl _ _).alloc (Nat.le_refl _) _
    have HX := hide (show Bk (w10.alloc (.cells #[.slice ro1 rs1.length rc1, .int .i64 f1, .bool e1, .int .i64 sl1] 24)) w10.heap.size [.slice ro1 rs1.length rc1, .int .i64 f1, .bool e1, .int .i64 sl1] from Bk.new rfl)
    have HJ1 := hide (hjs.kept (KeptBut.of_below (S := fun _ => False) hb11 (Nat.le_refl _)) fun _ _ h => h)
    have HB2 := hide (HB1.out.trans (hb11.mono HB1.out.size))
    have H1 := hide h1
    have H2 := hide h2
    have H3 := hide h3
    clear hjs b10 HPS hb11 HB1 HB h1 h2 h3
    go_upto_region 15 with (fail)
    generalize w10.alloc (.cells #[.slice ro1 rs1.length rc1, .int .i64 f1, .bool e1, .int .i64 sl1] 24) = w11 at *
    obtain ⟨xb, hxb⟩ : ∃ xb, w10.heap.size = xb := ⟨_, rfl⟩
    rw [hxb] at HX ⊢
    clear hxb
    go_wp2_with fail
    refine (HPO.out _ hs9).mono ?_
    rintro e w12 ⟨hQ, b12⟩
    rcases hQ with ⟨ro2, rc2, rs2, f2, sl2, e2, ⟨k1, k2, k3⟩, rfl, hks⟩ | ⟨hno, rfl⟩
    case inr => exact absurd (hno _ _ _ _ H1.out H2.out) (by have := H3.out; omega)
    obtain ⟨hv, rfl, rfl, rfl⟩ := job_one H1.out k1 (H2.out.symm.trans k2)
    replace HB2 := hide (HB2.out.trans (b12.mono HB2.out.size))
    replace HX := hide (HX.out.later b12)
    replace HJ1 := hide (HJ1.out.kept (KeptBut.of_below (S := fun _ => False) b12 (Nat.le_refl _)) fun _ _ h => h)
    have hb13 : Below w12.heap.size w12 (w12.alloc (.cells #[.slice ro2 rs2.length rc2, .int .i64 f1, .bool e1, .int .i64 sl1] 24)) := (Below.refl _ _).alloc (Nat.le_refl _) _
    have HY := hide (show Bk (w12.alloc (.cells #[.slice ro2 rs2.length rc2, .int .i64 f1, .bool e1, .int .i64 sl1] 24)) w12.heap.size [.slice ro2 rs2.length rc2, .int .i64 f1, .bool e1, .int .i64 sl1] from Bk.new rfl)
    have HJ2 := hide (hks.kept (KeptBut.of_below (S := fun _ => False) hb13 (Nat.le_refl _)) fun _ _ h => h)
    replace HB2 := hide (HB2.out.trans (hb13.mono HB2.out.size))
    replace HX := hide (HX.out.later hb13)
    replace HJ1 := hide (HJ1.out.kept (KeptBut.of_below (S := fun _ => False) hb13 (Nat.le_refl _)) fun _ _ h => h)
    have HS0 := hide fun w' => same_self 0 w' (by decide)
    rw [errV_zero] at HS0
    have hl1 : rs1.length ≤ 1000 := by have h9 := (jobF_ok H1.out).1; rw [List.length_map] at h9; omega
    have HSJ := hide (SameJob_refl ro1 ro2 rc1 rc2 rs1 rs2 f1 sl1 e1 _ hl1 HJ1.out.sl HJ2.out.sl (fun r hr => ⟨6, HJ1.out.rule r hr⟩) (fun r hr => ⟨6, HJ2.out.rule r hr⟩) hv)
    clear hks b12 hb13 HPO H1 H2 H3 k1 k2 k3 hv HJ1 HJ2 hl1
    go_upto_region 16 with (fail)
    generalize w12.alloc (.cells #[.slice ro2 rs2.length rc2, .int .i64 f1, .bool e1, .int .i64 sl1] 24) = w13 at *
    have i0 := HX.out.get (j := 0) rfl
    have i1 := HX.out.get (j := 1) rfl
    have i2 := HX.out.get (j := 2) rfl
    have i3 := HX.out.get (j := 3) rfl
    have l0 := HY.out.get (j := 0) rfl
    have l1 := HY.out.get (j := 1) rfl
    have l2 := HY.out.get (j := 2) rfl
    have l3 := HY.out.get (j := 3) rfl
    go_wp2_with fail
    refine (HS0.out _).mono ?_
    rintro e w14 ⟨rfl, rfl⟩
    go_wp2_with fail
    refine HSJ.out.mono ?_
    rintro e w15 ⟨rfl, b15⟩
    have HBF := hide (HB2.out.trans (b15.mono HB2.out.size))
    go_wp2
    go_ret
    exact ⟨ret_b (by first | rfl | simp), HBF.out⟩
  case inr =>
    unfold zeroJob
    have hb11 : Below w10.heap.size w10 (w10.alloc (.cells #[.slice none 0 0, .int .i64 0, .bool false, .int .i64 0] 24)) := (Below.refl _ _).alloc (Nat.le_refl _) _
    have HX := hide (show Bk (w10.alloc (.cells #[.slice none 0 0, .int .i64 0, .bool false, .int .i64 0] 24)) w10.heap.size [.slice none 0 0, .int .i64 0, .bool false, .int .i64 0] from Bk.new rfl)
    have HB2 := hide (HB1.out.trans (hb11.mono HB1.out.size))
    have HNO := hide hno
    obtain ⟨ev, hev⟩ : ∃ ev, errV ec = ev := ⟨_, rfl⟩
    have HSE := hide fun w' => HSM.out ec w' hec0
    rw [hev] at HSE ⊢
    clear b10 HPS hb11 HB1 HB hno hev
    go_upto_region 15 with (fail)
    generalize w10.alloc (.cells #[.slice none 0 0, .int .i64 0, .bool false, .int .i64 0] 24) = w11 at *
    obtain ⟨xb, hxb⟩ : ∃ xb, w10.heap.size = xb := ⟨_, rfl⟩
    rw [hxb] at HX ⊢
    clear hxb
    go_wp2_with fail
    refine (HPO.out _ hs9).mono ?_
    rintro e w12 ⟨hQ, b12⟩
    rcases hQ with ⟨ro2, rc2, rs2, f2, sl2, e2, ⟨k1, k2, k3⟩, rfl, hks⟩ | ⟨hno, rfl⟩
    case inl => exact absurd (HNO.out _ _ _ _ k1 k2) (by omega)
    unfold zeroJob
    replace HB2 := hide (HB2.out.trans (b12.mono HB2.out.size))
    replace HX := hide (HX.out.later b12)
    have hb13 : Below w12.heap.size w12 (w12.alloc (.cells #[.slice none 0 0, .int .i64 0, .bool false, .int .i64 0] 24)) := (Below.refl _ _).alloc (Nat.le_refl _) _
    have HY := hide (show Bk (w12.alloc (.cells #[.slice none 0 0, .int .i64 0, .bool false, .int .i64 0] 24)) w12.heap.size [.slice none 0 0, .int .i64 0, .bool false, .int .i64 0] from Bk.new rfl)
    replace HB2 := hide (HB2.out.trans (hb13.mono HB2.out.size))
    replace HX := hide (HX.out.later hb13)
    have HSJ := hide (SameJob_refl none none 0 0 [] [] 0 0 false (w12.alloc (.cells #[.slice none 0 0, .int .i64 0, .bool false, .int .i64 0] 24)) (by decide) Sl.nil Sl.nil (fun r hr => by cases hr) (fun r hr => by cases hr) rfl)
    clear hno b12 hb13 HPO HNO
    go_upto_region 16 with (fail)
    generalize w12.alloc (.cells #[.slice none 0 0, .int .i64 0, .bool false, .int .i64 0] 24) = w13 at *
    have i0 := HX.out.get (j := 0) rfl
    have i1 := HX.out.get (j := 1) rfl
    have i2 := HX.out.get (j := 2) rfl
    have i3 := HX.out.get (j := 3) rfl
    have l0 := HY.out.get (j := 0) rfl
    have l1 := HY.out.get (j := 1) rfl
    have l2 := HY.out.get (j := 2) rfl
    have l3 := HY.out.get (j := 3) rfl
    go_wp2_with fail
    refine (HSE.out _).mono ?_
    rintro e w14 ⟨rfl, rfl⟩
    go_wp2_with fail
    refine HSJ.out.mono ?_
    rintro e w15 ⟨rfl, b15⟩
    have HBF := hide (HB2.out.trans (b15.mono HB2.out.size))
    go_wp2
    go_ret
    exact ⟨ret_b (by first | rfl | simp), HBF.out⟩
end Go.Proofs.YtgeedjlbajmdkaaGreatDoor
