/- TopJob: the law's walk. -/
import Derived.Test.YtjkggijkccbcpaaDoorJParse
import Derived.Test.YtjkggijkccbcpaaDoorSameJob
import Derived.Test.YtjkggijkccbcpaaDoorLightJob
import Derived.Test.YtjkggijkccbcpaaDoorJobOpen
set_option linter.unusedSimpArgs false
set_option linter.unusedVariables false
namespace Go.Proofs.YtjkggijkccbcpaaDoor
open Go.RowKit

def sumT : List UInt8 := [115, 117, 109, 32, 50, 10, 107, 101, 121, 32, 108, 105, 110, 101, 32, 118, 97, 108, 32, 109, 97, 110, 121, 10]
def sumRule : RuleV := ⟨false, 0, blankX, tx [], .mk 2 0 (tx []) [], .mk 9 0 (tx []) []⟩
theorem sumT_job : jobF [sumRule] 1 2 = 0 ∧ sumT = jobT [sumRule] 1 2 false := ⟨by decide +kernel, by decide +kernel⟩
/-- the job of a text is one -/
theorem job_unique {rs rs' : List RuleV} {f f' sl sl' : Int} {e e' : Bool} (h : jobF rs f sl = 0) (h' : jobF rs' f' sl' = 0) (ht : jobT rs f sl e = jobT rs' f' sl' e') : rs = rs' ∧ f = f' ∧ sl = sl' ∧ e = e' := by
  have h1 := readJob_text (early := e) h
  rw [ht, readJob_text h'] at h1
  simp only [Prod.mk.injEq] at h1
  exact ⟨h1.1.symm, h1.2.1.symm, h1.2.2.1.symm, h1.2.2.2.1.symm⟩
theorem textOut_ok {rs : List RuleV} {f sl : Int} {e : Bool} (h : (textOut rs f sl e).2 = 0) : jobF rs f sl = 0 ∧ (jobT rs f sl e).length ≤ 800 ∧ textOut rs f sl e = (jobT rs f sl e, 0) := by
  unfold textOut at h ⊢
  split at h
  · rename_i h2; exact absurd h h2
  · rename_i h2
    split at h
    · cases h
    · rename_i h3
      exact ⟨Classical.not_not.1 h2, by omega, by rw [if_neg h2, if_neg h3]⟩
theorem textOut_of {rs : List RuleV} {f sl : Int} {e : Bool} (h : jobF rs f sl = 0) (hl : (jobT rs f sl e).length ≤ 800) : textOut rs f sl e = (jobT rs f sl e, 0) := by
  unfold textOut
  rw [if_neg (by rw [h]; simp), if_neg (by omega)]
set_option maxRecDepth 100000 in
set_option maxHeartbeats 4000000 in
theorem TopJob_walk (ro : Option Addr) (rc : Nat) (rs : List RuleR) (fold slices : Int) (early : Bool) (s : List UInt8) (w : World) (hg : GW w) (hj : JobIn w ro rc rs fold slices) (hs : s.length ≤ maxLen) :
    Calls Tryd.prog 4 #[.agg #[.slice ro rs.length rc, .int .i64 fold, .bool early, .int .i64 slices], .string (tx s)] w fun e w' => e = .returned (.bool true) ∧ Below w.heap.size w w' := by
  obtain ⟨W1, hW1⟩ : ∃ W, W = w.alloc (.cells #[.slice ro rs.length rc, .int .i64 fold, .bool early, .int .i64 slices] 24) := ⟨_, rfl⟩
  have hb1 : Below w.heap.size w W1 := by rw [hW1]; exact (Below.refl _ _).alloc (Nat.le_refl _) _
  have hbj : Bk W1 w.heap.size [.slice ro rs.length rc, .int .i64 fold, .bool early, .int .i64 slices] := by rw [hW1]; exact Bk.new rfl
  have HJ := hide hj
  have HGB := hide fun w' (hb : Below w.heap.size w w') => hg.later hb (Nat.le_refl _)
  have HB := hide hb1
  have HBJ := hide hbj
  have HW1 := hide hW1
  have HRS := hide fun w' (hb : Below w.heap.size w w') => (⟨hj.sl.later hb (Nat.le_refl _), fun r hr => by obtain ⟨d, h⟩ := hj.at_ r hr; exact ⟨d, h.later hb (Nat.le_refl _)⟩⟩ : Sl 15 encRule w' ro rs ∧ ∀ r ∈ rs, ∃ d, RuleAt w' d r)
  have HLJ := hide fun w' (hb : Below w.heap.size w w') => LightJob_any ro rc rs fold slices early w' hj.len (HRS.out w' hb).1 (HRS.out w' hb).2
  have HTX := hide fun w' (hb : Below w.heap.size w w') => Text_job ro rc rs fold slices early w' (HGB.out w' hb) hj.len (HRS.out w' hb).1 (HRS.out w' hb).2
  have HP0 := hide (JobParse_any sumT W1 (HGB.out _ hb1) (by decide))
  have hlr := hj.len
  unfold maxLen at hlr hs
  unfold SomeB at HLJ
  unfold JPost at HP0
  clear hb1 hbj hW1 hg hj
  go_enter Tryd.func4, Tryd.ntmps4
  go_upto_region 1 with (fail)
  rw [← HW1.out]
  clear HW1
  go_wp2_with fail
  refine HP0.out.mono ?_
  rintro e w2 ⟨hP, b2⟩
  replace HB := hide (HB.out.trans (b2.mono HB.out.size))
  replace HBJ := hide (HBJ.out.later b2)
  rcases hP with ⟨ro0, rc0, rs0, f0, sl0, e0, ⟨h1, h2, _⟩, rfl, hjs⟩ | ⟨hno, rfl⟩
  case inr =>
    exfalso
    have := hno [sumRule] 1 2 false sumT_job.1 sumT_job.2
    revert this
    decide
  obtain rfl : sl0 = 2 := (job_unique sumT_job.1 h1 (sumT_job.2.symm.trans h2)).2.2.1.symm
  clear h1 h2 hjs b2 HP0
  go_upto_region 2 with (fail)
  have HX := hide (show Bk (w2.alloc (.cells #[.slice ro0 rs0.length rc0, .int .i64 f0, .bool e0, .int .i64 2] 24)) w2.heap.size [.slice ro0 rs0.length rc0, .int .i64 f0, .bool e0, .int .i64 2] from Bk.new rfl)
  have HXL : Hid (w.heap.size < w2.heap.size) := HBJ.out.lt
  replace HBJ := hide (HBJ.out.alloc (.cells #[.slice ro0 rs0.length rc0, .int .i64 f0, .bool e0, .int .i64 2] 24))
  replace HB := hide (HB.out.alloc HB.out.size (.cells #[.slice ro0 rs0.length rc0, .int .i64 f0, .bool e0, .int .i64 2] 24))
  generalize w2.alloc (.cells #[.slice ro0 rs0.length rc0, .int .i64 f0, .bool e0, .int .i64 2] 24) = w3 at *
  obtain ⟨xb, hxb⟩ : ∃ xb, w2.heap.size = xb := ⟨_, rfl⟩
  rw [hxb] at HX HXL ⊢
  clear hxb
  have q3 := HX.out.get (j := 3) rfl
  have j0 := HBJ.out.get (j := 0) rfl
  have j1 := HBJ.out.get (j := 1) rfl
  have j2 := HBJ.out.get (j := 2) rfl
  have j3 := HBJ.out.get (j := 3) rfl
  go_wp2_with fail
  refine (HLJ.out _ HB.out).mono ?_
  rintro e w4 ⟨⟨b, rfl⟩, b4⟩
  replace j0 := cell_later b4 j0
  replace j1 := cell_later b4 j1
  replace j2 := cell_later b4 j2
  replace j3 := cell_later b4 j3
  replace HB := hide (HB.out.trans (b4.mono HB.out.size))
  replace HBJ := hide (HBJ.out.later b4)
  replace HX := hide (HX.out.later b4)
  clear b4 HLJ q3
  cases b with
  | false =>
    go_wp2
    go_ret
    exact ⟨rfl, HB.out⟩
  | true =>
  have hsz : (tx s).size = s.length := tx_size s
  by_cases h9 : 900 < (tx s).size
  · clear hsz
    go_wp2
    go_ret
    exact ⟨rfl, HB.out⟩
  have hs9 : s.length ≤ 900 := by omega
  clear hsz
  go_wp2_with fail
  refine (HTX.out _ HB.out).mono ?_
  rintro e w5 ⟨rfl, b5⟩
  replace j0 := cell_later b5 j0
  replace j1 := cell_later b5 j1
  replace j2 := cell_later b5 j2
  replace j3 := cell_later b5 j3
  replace HB := hide (HB.out.trans (b5.mono HB.out.size))
  replace HBJ := hide (HBJ.out.later b5)
  replace HX := hide (HX.out.later b5)
  clear b5 HTX h9
  obtain ⟨tt, ef, hto⟩ : ∃ tt ef, textOut (rs.map RuleR.v) fold slices early = (tt, ef) := ⟨_, _, rfl⟩
  rw [hto]
  dsimp only
  have HTO := hide hto
  obtain ⟨ev, hev⟩ : ∃ ev, errV ef = ev := ⟨_, rfl⟩
  rw [hev]
  obtain ⟨eb, heb⟩ : ∃ eb, decide (ef = 0) = eb := ⟨_, rfl⟩
  clear hto
  have HEV := hide hev
  clear hev
  have hevs : ev = .nilIface ∨ ∃ t v, ev = .iface t v := by
    rw [← HEV.out]
    by_cases h : ef = 0
    · left; rw [h]; rfl
    · right; exact ⟨_, _, errV_pos h⟩
  have HEVS := hide hevs
  clear hevs heb
  rcases HEVS.out with rfl | ⟨tp, pv, rfl⟩
  case inl =>
    have hef : ef = 0 := by
      by_cases h : ef = 0
      · exact h
      · have := HEV.out; rw [errV_pos h] at this; cases this
    subst hef
    obtain ⟨g1, g2, g3⟩ := textOut_ok (e := early) (by rw [HTO.out])
    have htt : tt = jobT (rs.map RuleR.v) fold slices early := by have := HTO.out; rw [g3] at this; exact (Prod.mk.inj this).1.symm
    have HPJ := hide (JobParse_any tt w5 (HGB.out _ HB.out) (by rw [htt]; omega))
    unfold JPost at HPJ
    have HTT := hide htt
    clear htt
    go_wp2_with fail
    refine HPJ.out.mono ?_
    rintro e w6 ⟨hP, b6⟩
    replace j0 := cell_later b6 j0
    replace j1 := cell_later b6 j1
    replace j2 := cell_later b6 j2
    replace j3 := cell_later b6 j3
    replace HB := hide (HB.out.trans (b6.mono HB.out.size))
    replace HBJ := hide (HBJ.out.later b6)
    replace HX := hide (HX.out.later b6)
    rcases hP with ⟨ro1, rc1, rs1, f1, sl1, e1, ⟨h1, h2, _⟩, rfl, hjs⟩ | ⟨hno, rfl⟩
    case inr =>
      exfalso
      have := hno _ _ _ _ g1 HTT.out
      rw [HTT.out] at this
      omega
    obtain ⟨hv, rfl, rfl, rfl⟩ := job_unique h1 g1 (h2.symm.trans HTT.out)
    have hb7 : Below w6.heap.size w6 (w6.alloc (.cells #[.slice ro1 rs1.length rc1, .int .i64 f1, .bool e1, .int .i64 sl1] 24)) := (Below.refl _ _).alloc (Nat.le_refl _) _
    have HX8 := hide (show Bk (w6.alloc (.cells #[.slice ro1 rs1.length rc1, .int .i64 f1, .bool e1, .int .i64 sl1] 24)) w6.heap.size [.slice ro1 rs1.length rc1, .int .i64 f1, .bool e1, .int .i64 sl1] from Bk.new rfl)
    have HJS := hide (hjs.kept (KeptBut.of_below (S := fun _ => False) hb7 (Nat.le_refl _)) fun _ _ h => h)
    replace j0 := cell_later hb7 j0
    replace j1 := cell_later hb7 j1
    replace j2 := cell_later hb7 j2
    replace j3 := cell_later hb7 j3
    replace HB := hide (HB.out.trans (hb7.mono HB.out.size))
    replace HBJ := hide (HBJ.out.later hb7)
    replace HX := hide (HX.out.later hb7)
    have hl1 : rs1.length ≤ 1000 := by have h9 := (jobF_ok h1).1; rw [List.length_map] at h9; omega
    have HSJ := hide (SameJob_refl ro1 ro rc1 rc rs1 rs f1 sl1 e1 _ hl1 HJS.out.sl (HRS.out _ HB.out).1 (fun r hr => ⟨6, HJS.out.rule r hr⟩) (HRS.out _ HB.out).2 hv)
    have i0 := HX8.out.get (j := 0) rfl
    have i1 := HX8.out.get (j := 1) rfl
    have i2 := HX8.out.get (j := 2) rfl
    have i3 := HX8.out.get (j := 3) rfl
    clear g1 g2 g3 HTT b6 h1 h2 hjs hv hb7 HPJ HTO HEV HEVS
    go_wp2_with fail
    refine HSJ.out.mono ?_
    rintro e w8 ⟨rfl, b8⟩
    replace HB := hide (HB.out.trans (b8.mono HB.out.size))
    replace HX := hide (HX.out.later b8)
    clear b8 j0 j1 j2 j3 i0 i1 i2 i3 HSJ HX8 HBJ HJS hl1
    have HPS := hide fun w' (hb : Below w.heap.size w w') => JobParse_any s w' (HGB.out w' hb) (by omega)
    unfold JPost at HPS
    have HXS := hide HX.out.lt
    go_wp2_with fail
    refine (HPS.out _ HB.out).mono ?_
    rintro e w9 ⟨hP, b9⟩
    replace HB := hide (HB.out.trans (b9.mono HB.out.size))
    replace HX := hide (HX.out.later b9)
    rcases hP with ⟨ro1, rc1, rs1, f1, sl1, e1, ⟨h1, h2, h3⟩, rfl, hjs⟩ | ⟨hno, rfl⟩
    case inr =>
      have x0 := HX.out.get (j := 0) rfl
      have x1 := HX.out.get (j := 1) rfl
      have x2 := HX.out.get (j := 2) rfl
      have x3 := HX.out.get (j := 3) rfl
      have y0 := HX.out.fz 0
      have y1 := HX.out.fz 1
      have y2 := HX.out.fz 2
      have y3 := HX.out.fz 3
      have HBF : Hid (∀ v0 v1 v2 v3 : Value, Below w.heap.size w ((((w9.setCell ⟨xb, 0, none⟩ v0).setCell ⟨xb, 1, none⟩ v1).setCell ⟨xb, 2, none⟩ v2).setCell ⟨xb, 3, none⟩ v3)) := fun v0 v1 v2 v3 =>
        (((HB.out.setCell (p := ⟨xb, 0, none⟩) (Nat.le_of_lt HXL.out) _).setCell (p := ⟨xb, 1, none⟩) (Nat.le_of_lt HXL.out) _).setCell (p := ⟨xb, 2, none⟩) (Nat.le_of_lt HXL.out) _).setCell (p := ⟨xb, 3, none⟩) (Nat.le_of_lt HXL.out) _
      obtain ⟨te, ve, hte⟩ : ∃ te ve, errV (if 800 < s.length then 2 else 4) = .iface te ve := ⟨_, _, errV_pos (by split <;> decide)⟩
      rw [hte]
      clear hte
      unfold zeroJob
      clear hno HPS b9
      go_wp2
      go_ret
      exact ⟨rfl, HBF.out _ _ _ _⟩
    case inl =>
      have x0 := HX.out.get (j := 0) rfl
      have x1 := HX.out.get (j := 1) rfl
      have x2 := HX.out.get (j := 2) rfl
      have x3 := HX.out.get (j := 3) rfl
      have y0 := HX.out.fz 0
      have y1 := HX.out.fz 1
      have y2 := HX.out.fz 2
      have y3 := HX.out.fz 3
      have HBF : Hid (∀ v0 v1 v2 v3 : Value, Below w.heap.size w ((((w9.setCell ⟨xb, 0, none⟩ v0).setCell ⟨xb, 1, none⟩ v1).setCell ⟨xb, 2, none⟩ v2).setCell ⟨xb, 3, none⟩ v3)) := fun v0 v1 v2 v3 =>
        (((HB.out.setCell (p := ⟨xb, 0, none⟩) (Nat.le_of_lt HXL.out) _).setCell (p := ⟨xb, 1, none⟩) (Nat.le_of_lt HXL.out) _).setCell (p := ⟨xb, 2, none⟩) (Nat.le_of_lt HXL.out) _).setCell (p := ⟨xb, 3, none⟩) (Nat.le_of_lt HXL.out) _
      have hkk := kept_set4 (.slice ro1 rs1.length rc1) (.int .i64 f1) (.bool e1) (.int .i64 sl1) (KeptBut.refl (fun q => q = xb) w9) (b := xb) (.inl rfl)
      have HX9 := hide (HX.out.set4 (.slice ro1 rs1.length rc1) (.int .i64 f1) (.bool e1) (.int .i64 sl1))
      have HXB : Hid (xb < w9.heap.size) := HX.out.lt
      have hxs := HXS
      have HJ9 := hide (hjs.kept hkk fun q hq (e : q = xb) => by have := hxs.out; omega)
      have hl9 : rs1.length ≤ maxLen := by have h9 := (jobF_ok h1).1; rw [List.length_map] at h9; unfold maxLen; omega
      have HT9 := hide (Text_job ro1 rc1 rs1 f1 sl1 e1 _ (HGB.out _ (HBF.out _ _ _ _)).toGT hl9 HJ9.out.sl (fun r hr => ⟨6, HJ9.out.rule r hr⟩))
      rw [textOut_of h1 (by rw [← h2]; exact h3), ← h2] at HT9
      have q0 := HX9.out.get (j := 0) rfl
      have q1 := HX9.out.get (j := 1) rfl
      have q2 := HX9.out.get (j := 2) rfl
      have q3 := HX9.out.get (j := 3) rfl
      clear hjs h1 h2 h3 HPS b9 hl9 HJ9 hkk hxs
      go_wp2_with fail
      refine HT9.out.mono ?_
      rintro e w10 ⟨rfl, b10⟩
      rw [errV_zero]
      go_wp2
      go_ret
      exact ⟨rfl, (HBF.out _ _ _ _).trans (b10.mono (HBF.out _ _ _ _).size)⟩
  case inr =>
    clear j0 j1 j2 j3 HTO HEV HEVS HBJ
    have HPS := hide fun w' (hb : Below w.heap.size w w') => JobParse_any s w' (HGB.out w' hb) (by omega)
    unfold JPost at HPS
    have HXS := hide HX.out.lt
    go_wp2_with fail
    refine (HPS.out _ HB.out).mono ?_
    rintro e w9 ⟨hP, b9⟩
    replace HB := hide (HB.out.trans (b9.mono HB.out.size))
    replace HX := hide (HX.out.later b9)
    rcases hP with ⟨ro1, rc1, rs1, f1, sl1, e1, ⟨h1, h2, h3⟩, rfl, hjs⟩ | ⟨hno, rfl⟩
    case inr =>
      have x0 := HX.out.get (j := 0) rfl
      have x1 := HX.out.get (j := 1) rfl
      have x2 := HX.out.get (j := 2) rfl
      have x3 := HX.out.get (j := 3) rfl
      have y0 := HX.out.fz 0
      have y1 := HX.out.fz 1
      have y2 := HX.out.fz 2
      have y3 := HX.out.fz 3
      have HBF : Hid (∀ v0 v1 v2 v3 : Value, Below w.heap.size w ((((w9.setCell ⟨xb, 0, none⟩ v0).setCell ⟨xb, 1, none⟩ v1).setCell ⟨xb, 2, none⟩ v2).setCell ⟨xb, 3, none⟩ v3)) := fun v0 v1 v2 v3 =>
        (((HB.out.setCell (p := ⟨xb, 0, none⟩) (Nat.le_of_lt HXL.out) _).setCell (p := ⟨xb, 1, none⟩) (Nat.le_of_lt HXL.out) _).setCell (p := ⟨xb, 2, none⟩) (Nat.le_of_lt HXL.out) _).setCell (p := ⟨xb, 3, none⟩) (Nat.le_of_lt HXL.out) _
      obtain ⟨te, ve, hte⟩ : ∃ te ve, errV (if 800 < s.length then 2 else 4) = .iface te ve := ⟨_, _, errV_pos (by split <;> decide)⟩
      rw [hte]
      clear hte
      unfold zeroJob
      clear hno HPS b9
      go_wp2
      go_ret
      exact ⟨rfl, HBF.out _ _ _ _⟩
    case inl =>
      have x0 := HX.out.get (j := 0) rfl
      have x1 := HX.out.get (j := 1) rfl
      have x2 := HX.out.get (j := 2) rfl
      have x3 := HX.out.get (j := 3) rfl
      have y0 := HX.out.fz 0
      have y1 := HX.out.fz 1
      have y2 := HX.out.fz 2
      have y3 := HX.out.fz 3
      have HBF : Hid (∀ v0 v1 v2 v3 : Value, Below w.heap.size w ((((w9.setCell ⟨xb, 0, none⟩ v0).setCell ⟨xb, 1, none⟩ v1).setCell ⟨xb, 2, none⟩ v2).setCell ⟨xb, 3, none⟩ v3)) := fun v0 v1 v2 v3 =>
        (((HB.out.setCell (p := ⟨xb, 0, none⟩) (Nat.le_of_lt HXL.out) _).setCell (p := ⟨xb, 1, none⟩) (Nat.le_of_lt HXL.out) _).setCell (p := ⟨xb, 2, none⟩) (Nat.le_of_lt HXL.out) _).setCell (p := ⟨xb, 3, none⟩) (Nat.le_of_lt HXL.out) _
      have hkk := kept_set4 (.slice ro1 rs1.length rc1) (.int .i64 f1) (.bool e1) (.int .i64 sl1) (KeptBut.refl (fun q => q = xb) w9) (b := xb) (.inl rfl)
      have HX9 := hide (HX.out.set4 (.slice ro1 rs1.length rc1) (.int .i64 f1) (.bool e1) (.int .i64 sl1))
      have HXB : Hid (xb < w9.heap.size) := HX.out.lt
      have hxs := HXS
      have HJ9 := hide (hjs.kept hkk fun q hq (e : q = xb) => by have := hxs.out; omega)
      have hl9 : rs1.length ≤ maxLen := by have h9 := (jobF_ok h1).1; rw [List.length_map] at h9; unfold maxLen; omega
      have HT9 := hide (Text_job ro1 rc1 rs1 f1 sl1 e1 _ (HGB.out _ (HBF.out _ _ _ _)).toGT hl9 HJ9.out.sl (fun r hr => ⟨6, HJ9.out.rule r hr⟩))
      rw [textOut_of h1 (by rw [← h2]; exact h3), ← h2] at HT9
      have q0 := HX9.out.get (j := 0) rfl
      have q1 := HX9.out.get (j := 1) rfl
      have q2 := HX9.out.get (j := 2) rfl
      have q3 := HX9.out.get (j := 3) rfl
      clear hjs h1 h2 h3 HPS b9 hl9 HJ9 hkk hxs
      go_wp2_with fail
      refine HT9.out.mono ?_
      rintro e w10 ⟨rfl, b10⟩
      rw [errV_zero]
      go_wp2
      go_ret
      exact ⟨rfl, (HBF.out _ _ _ _).trans (b10.mono (HBF.out _ _ _ _).size)⟩
end Go.Proofs.YtjkggijkccbcpaaDoor
