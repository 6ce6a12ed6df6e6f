/- TopWhen: the law's walk. -/
import Derived.Test.YtafogaopccajaaaDoorReady
import Derived.Test.YtafogaopccajaaaDoorLightJob
import Derived.Test.YtafogaopccajaaaDoorJobOpen
import Derived.Test.YtafogaopccajaaaDoorKeys
import Derived.Test.YtafogaopccajaaaDoorSort7
set_option linter.unusedSimpArgs false
set_option linter.unusedVariables false
namespace Go.Proofs.YtafogaopccajaaaDoor
open Go.RowKit

def ruleIf (r : RuleR) (s : ByteArray) (n : Int) : RuleR := { r with txt := s, when_ := n }
def ruleAl (r : RuleR) : RuleR := { r with txt := ⟨#[]⟩, when_ := 0, cond := exLeaf 0 }
theorem ruleIf_at {w : World} {d : Nat} {r : RuleR} (h : RuleAt w d r) (s : ByteArray) (n : Int) (hs : s.size ≤ maxLen) : RuleAt w d (ruleIf r s n) := ⟨h.cond, h.key, h.val, hs⟩
theorem ruleAl_at {w : World} {d : Nat} {r : RuleR} (h : RuleAt w d r) : RuleAt w (max d 1) (ruleAl r) :=
  ⟨ExAt.more (ExAt_leaf w 0 0 ⟨#[]⟩ (by decide) (by decide) (by decide)) (Nat.le_max_right _ _), h.key.more (Nat.le_max_left _ _), h.val.more (Nat.le_max_left _ _), show (⟨#[]⟩ : ByteArray).size ≤ maxLen by decide⟩
theorem ruleIf_ok {r : RuleR} {s : ByteArray} (h : RuleOk (ruleIf r s 1).v) : RuleOk (ruleIf r s 2).v :=
  ⟨h.key, h.val, fun _ => h.cond (show (1 : Int) ≠ 0 by decide), .inr (.inr rfl), h.txt⟩
theorem ruleAl_ok {r : RuleR} {s : ByteArray} (h : RuleOk (ruleIf r s 1).v) : RuleOk (ruleAl r).v :=
  ⟨h.key, h.val, fun e => absurd rfl e, .inl rfl, show (⟨#[]⟩ : ByteArray).size ≤ 20 by decide⟩
theorem rule_parts (r : RuleR) (s : ByteArray) (kind : Int) (line : ByteArray) : (pairsR (ruleIf r s 1).v kind line ++ pairsR (ruleIf r s 2).v kind line).Perm (pairsR (ruleAl r).v kind line) :=
  when_parts r.each r.cond.tree (exLeaf 0).tree s ⟨#[]⟩ r.key.tree r.val.tree kind line
set_option maxRecDepth 100000 in
set_option maxHeartbeats 4000000 in
theorem TopWhen_walk (r : RuleR) (kind : Int) (s line : ByteArray) (d : Nat) (w : World) (hg : GM w) (hr : RuleAt w d r) (hs : s.size ≤ maxLen) (hline : line.size ≤ maxLen) :
    Calls Tryd.prog 4 #[r.agg, .int .i64 kind, .string s, .string line] w fun e w' => e = .returned (.bool true) ∧ Below w.heap.size w w' := by
  obtain ⟨i0, hi0, hz0, hz1, hz2⟩ := info_parts infoPair
  show Calls Tryd.prog 4 #[.agg #[.bool r.each, .int .i64 r.when_, .int .i64 r.cond.k, .int .i64 r.cond.n, .string r.cond.s, .slice r.cond.ao r.cond.a.length r.cond.cap, .string r.txt, .int .i64 r.key.k, .int .i64 r.key.n, .string r.key.s, .slice r.key.ao r.key.a.length r.key.cap, .int .i64 r.val.k, .int .i64 r.val.n, .string r.val.s, .slice r.val.ao r.val.a.length r.val.cap], .int .i64 kind, .string s, .string line] w _
  obtain ⟨W1, hW1⟩ : ∃ W, W = w.alloc (.cells #[.bool r.each, .int .i64 r.when_, .int .i64 r.cond.k, .int .i64 r.cond.n, .string r.cond.s, .slice r.cond.ao r.cond.a.length r.cond.cap, .string r.txt, .int .i64 r.key.k, .int .i64 r.key.n, .string r.key.s, .slice r.key.ao r.key.a.length r.key.cap, .int .i64 r.val.k, .int .i64 r.val.n, .string r.val.s, .slice r.val.ao r.val.a.length r.val.cap] 38) := ⟨_, rfl⟩
  have hb1 : Below w.heap.size w W1 := by rw [hW1]; exact (Below.refl _ _).alloc (Nat.le_refl _) _
  have hbr : Bk W1 w.heap.size (encRule r) := by rw [hW1]; exact Bk.new rfl
  have HG := hide hg
  have HR := hide hr
  have HSS := hide hs
  have HB := hide hb1
  have HRB := hide hbr
  have HW1 := hide hW1
  have HRE := hide fun w' (hb : Below w.heap.size w w') => ready_any w' (hg.later hb (Nat.le_refl _))
  clear hb1 hbr hW1 hg hr hs
  go_enter Tryd.func4, Tryd.ntmps4
  go_upto_region 1 with (fail)
  rw [← HW1.out]
  clear HW1
  go_wp2_with fail
  refine (HRE.out _ HB.out).mono ?_
  rintro e w2 ⟨rfl, b2⟩
  replace HB := hide (HB.out.trans (b2.mono HB.out.size))
  replace HRB := hide (HRB.out.later b2)
  clear b2 HRE
  have k1 := HRB.out.get (j := 1) rfl
  have k6 := HRB.out.get (j := 6) rfl
  have z1 := HRB.out.fz 1
  have z6 := HRB.out.fz 6
  go_upto_region 6 with (fail)
  have HRB3 : Hid (Bk ((w2.setCell ⟨w.heap.size, 6, none⟩ (.string s)).setCell ⟨w.heap.size, 1, none⟩ (.int .i64 1)) w.heap.size (encRule (ruleIf r s 1))) := (HRB.out.set (k := 6) (u := .string r.txt) (.string s) rfl).set (k := 1) (u := .int .i64 r.when_) (.int .i64 1) rfl
  have HB3 := hide ((HB.out.setCell (p := ⟨w.heap.size, 6, none⟩) (Nat.le_refl _) (.string s)).setCell (p := ⟨w.heap.size, 1, none⟩) (Nat.le_refl _) (.int .i64 1))
  clear HRB HB k1 k6 z1 z6
  generalize ((w2.setCell ⟨w.heap.size, 6, none⟩ (.string s)).setCell ⟨w.heap.size, 1, none⟩ (.int .i64 1)) = W3 at *
  have HRB := HRB3
  have k0 := HRB.out.get (j := 0) rfl
  have k1 := HRB.out.get (j := 1) rfl
  have k2 := HRB.out.get (j := 2) rfl
  have k3 := HRB.out.get (j := 3) rfl
  have k4 := HRB.out.get (j := 4) rfl
  have k5 := HRB.out.get (j := 5) rfl
  have k6 := HRB.out.get (j := 6) rfl
  have k7 := HRB.out.get (j := 7) rfl
  have k8 := HRB.out.get (j := 8) rfl
  have k9 := HRB.out.get (j := 9) rfl
  have k10 := HRB.out.get (j := 10) rfl
  have k11 := HRB.out.get (j := 11) rfl
  have k12 := HRB.out.get (j := 12) rfl
  have k13 := HRB.out.get (j := 13) rfl
  have k14 := HRB.out.get (j := 14) rfl
  go_upto_region 7 with (fail)
  have hz4 : (W3.alloc (.cells #[.bool (ruleIf r s 1).each, .int .i64 (ruleIf r s 1).when_, .int .i64 (ruleIf r s 1).cond.k, .int .i64 (ruleIf r s 1).cond.n, .string (ruleIf r s 1).cond.s, .slice (ruleIf r s 1).cond.ao (ruleIf r s 1).cond.a.length (ruleIf r s 1).cond.cap, .string (ruleIf r s 1).txt, .int .i64 (ruleIf r s 1).key.k, .int .i64 (ruleIf r s 1).key.n, .string (ruleIf r s 1).key.s, .slice (ruleIf r s 1).key.ao (ruleIf r s 1).key.a.length (ruleIf r s 1).key.cap, .int .i64 (ruleIf r s 1).val.k, .int .i64 (ruleIf r s 1).val.n, .string (ruleIf r s 1).val.s, .slice (ruleIf r s 1).val.ao (ruleIf r s 1).val.a.length (ruleIf r s 1).val.cap] 38)).heap.size = W3.heap.size + 1 := by simp
  have hb4 : Below W3.heap.size W3 ((W3.alloc (.cells #[.bool (ruleIf r s 1).each, .int .i64 (ruleIf r s 1).when_, .int .i64 (ruleIf r s 1).cond.k, .int .i64 (ruleIf r s 1).cond.n, .string (ruleIf r s 1).cond.s, .slice (ruleIf r s 1).cond.ao (ruleIf r s 1).cond.a.length (ruleIf r s 1).cond.cap, .string (ruleIf r s 1).txt, .int .i64 (ruleIf r s 1).key.k, .int .i64 (ruleIf r s 1).key.n, .string (ruleIf r s 1).key.s, .slice (ruleIf r s 1).key.ao (ruleIf r s 1).key.a.length (ruleIf r s 1).key.cap, .int .i64 (ruleIf r s 1).val.k, .int .i64 (ruleIf r s 1).val.n, .string (ruleIf r s 1).val.s, .slice (ruleIf r s 1).val.ao (ruleIf r s 1).val.a.length (ruleIf r s 1).val.cap] 38)).alloc (.cells #[.slice (some ⟨W3.heap.size, 0, none⟩) 1 1, .int .i64 kind, .bool false, .int .i64 1] 24)) := ((Below.refl _ _).alloc (Nat.le_refl _) _).alloc (by simp) _
  have hs4 : Sl 15 encRule ((W3.alloc (.cells #[.bool (ruleIf r s 1).each, .int .i64 (ruleIf r s 1).when_, .int .i64 (ruleIf r s 1).cond.k, .int .i64 (ruleIf r s 1).cond.n, .string (ruleIf r s 1).cond.s, .slice (ruleIf r s 1).cond.ao (ruleIf r s 1).cond.a.length (ruleIf r s 1).cond.cap, .string (ruleIf r s 1).txt, .int .i64 (ruleIf r s 1).key.k, .int .i64 (ruleIf r s 1).key.n, .string (ruleIf r s 1).key.s, .slice (ruleIf r s 1).key.ao (ruleIf r s 1).key.a.length (ruleIf r s 1).key.cap, .int .i64 (ruleIf r s 1).val.k, .int .i64 (ruleIf r s 1).val.n, .string (ruleIf r s 1).val.s, .slice (ruleIf r s 1).val.ao (ruleIf r s 1).val.a.length (ruleIf r s 1).val.cap] 38)).alloc (.cells #[.slice (some ⟨W3.heap.size, 0, none⟩) 1 1, .int .i64 kind, .bool false, .int .i64 1] 24)) (some ⟨W3.heap.size, 0, none⟩) [ruleIf r s 1] := Sl.lit encRule_len (heap_old _ (heap_new _ _)) rfl
  have hj4 : Bk ((W3.alloc (.cells #[.bool (ruleIf r s 1).each, .int .i64 (ruleIf r s 1).when_, .int .i64 (ruleIf r s 1).cond.k, .int .i64 (ruleIf r s 1).cond.n, .string (ruleIf r s 1).cond.s, .slice (ruleIf r s 1).cond.ao (ruleIf r s 1).cond.a.length (ruleIf r s 1).cond.cap, .string (ruleIf r s 1).txt, .int .i64 (ruleIf r s 1).key.k, .int .i64 (ruleIf r s 1).key.n, .string (ruleIf r s 1).key.s, .slice (ruleIf r s 1).key.ao (ruleIf r s 1).key.a.length (ruleIf r s 1).key.cap, .int .i64 (ruleIf r s 1).val.k, .int .i64 (ruleIf r s 1).val.n, .string (ruleIf r s 1).val.s, .slice (ruleIf r s 1).val.ao (ruleIf r s 1).val.a.length (ruleIf r s 1).val.cap] 38)).alloc (.cells #[.slice (some ⟨W3.heap.size, 0, none⟩) 1 1, .int .i64 kind, .bool false, .int .i64 1] 24)) (W3.heap.size + 1) [.slice (some ⟨W3.heap.size, 0, none⟩) 1 1, .int .i64 kind, .bool false, .int .i64 1] := by
    rw [← hz4]
    exact Bk.new rfl
  have HS := hide hs4
  have HJB := hide hj4
  have HBB := hide hb4
  clear k0 k1 k2 k3 k4 k5 k6 k7 k8 k9 k10 k11 k12 k13 k14 hz4 hb4 hs4 hj4
  generalize (W3.alloc (.cells #[.bool (ruleIf r s 1).each, .int .i64 (ruleIf r s 1).when_, .int .i64 (ruleIf r s 1).cond.k, .int .i64 (ruleIf r s 1).cond.n, .string (ruleIf r s 1).cond.s, .slice (ruleIf r s 1).cond.ao (ruleIf r s 1).cond.a.length (ruleIf r s 1).cond.cap, .string (ruleIf r s 1).txt, .int .i64 (ruleIf r s 1).key.k, .int .i64 (ruleIf r s 1).key.n, .string (ruleIf r s 1).key.s, .slice (ruleIf r s 1).key.ao (ruleIf r s 1).key.a.length (ruleIf r s 1).key.cap, .int .i64 (ruleIf r s 1).val.k, .int .i64 (ruleIf r s 1).val.n, .string (ruleIf r s 1).val.s, .slice (ruleIf r s 1).val.ao (ruleIf r s 1).val.a.length (ruleIf r s 1).val.cap] 38)).alloc (.cells #[.slice (some ⟨W3.heap.size, 0, none⟩) 1 1, .int .i64 kind, .bool false, .int .i64 1] 24) = W4 at *
  have HB4 := hide (HB3.out.trans (HBB.out.mono HB3.out.size))
  have HRB4 := hide (HRB.out.later HBB.out)
  have HNE : Hid (w.heap.size ≠ W3.heap.size + 1 ∧ w.heap.size ≤ W3.heap.size) := by have := HB3.out.size; exact ⟨by omega, this⟩
  clear HRB HB3 HRB3 HBB
  have HRA := hide fun w' (hb : Below w.heap.size w w') => ruleIf_at (HR.out.later hb (Nat.le_refl _)) s 1 HSS.out
  have HLJ := hide (LightJob_any (some ⟨W3.heap.size, 0, none⟩) 1 [ruleIf r s 1] kind 1 false W4 (show 1 ≤ maxLen by decide) HS.out fun x hx => ⟨d, by rw [List.mem_singleton.1 hx]; exact HRA.out _ HB4.out⟩)
  have HJC := hide fun w' (hb : Below W4.heap.size W4 w') => jobCheck_any (some ⟨W3.heap.size, 0, none⟩) 1 [ruleIf r s 1] kind 1 false w' (show 1 ≤ maxLen by decide) (HS.out.later hb (Nat.le_refl _)) fun x hx => ⟨d, by rw [List.mem_singleton.1 hx]; exact HRA.out _ (HB4.out.trans (hb.mono HB4.out.size))⟩
  unfold SomeB at HLJ
  have j0 := HJB.out.get (j := 0) rfl
  have j1 := HJB.out.get (j := 1) rfl
  have j2 := HJB.out.get (j := 2) rfl
  have j3 := HJB.out.get (j := 3) rfl
  go_wp2_with fail
  refine HLJ.out.mono ?_
  rintro e w5 ⟨⟨b, rfl⟩, b5⟩
  have HB5 := hide b5
  replace j0 := cell_later b5 j0
  replace j1 := cell_later b5 j1
  replace j2 := cell_later b5 j2
  replace j3 := cell_later b5 j3
  replace HB4 := hide (HB4.out.trans (b5.mono HB4.out.size))
  replace HJB := hide (HJB.out.later b5)
  replace HRB4 := hide (HRB4.out.later b5)
  clear b5 HLJ
  cases b with
  | false =>
    clear HJC
    go_wp2
    go_ret
    exact ⟨rfl, HB4.out⟩
  | true =>
  by_cases h120 : 120 < line.size
  · have g1 : decide ((120 : Int) < (line.size : Int)) = true := by simp; omega
    clear HJC
    go_wp2
    go_ret
    exact ⟨rfl, HB4.out⟩
  have g1 : decide ((120 : Int) < (line.size : Int)) = false := by simp; omega
  obtain ⟨jf, hjf⟩ : ∃ jf, jobF ([ruleIf r s 1].map RuleR.v) kind 1 = jf := ⟨_, rfl⟩
  have HJF := hide hjf
  rw [hjf] at HJC
  clear hjf
  go_wp2_with fail
  refine (HJC.out _ HB5.out).mono ?_
  rintro e w6 ⟨rfl, b6⟩
  replace j0 := cell_later b6 j0
  replace j1 := cell_later b6 j1
  replace j2 := cell_later b6 j2
  replace j3 := cell_later b6 j3
  replace HB4 := hide (HB4.out.trans (b6.mono HB4.out.size))
  replace HB5 := hide (HB5.out.trans (b6.mono HB5.out.size))
  replace HJB := hide (HJB.out.later b6)
  replace HRB4 := hide (HRB4.out.later b6)
  clear b6 HJC
  by_cases hj0 : jf = 0
  case neg =>
    rw [errV_pos hj0]
    go_wp2
    go_ret
    exact ⟨rfl, HB4.out⟩
  subst hj0
  rw [errV_zero]
  have HRO : Hid (RuleOk (ruleIf r s 1).v) := RuleOk.of ((jobF_ok HJF.out).2.2.2 _ (by simp))
  have HS6 := hide (HS.out.later HB5.out (Nat.le_refl _))
  have hll : line.size ≤ 500 := by omega
  have HP := hide (Pairs_any (some ⟨W3.heap.size, 0, none⟩) 1 [ruleIf r s 1] kind 1 false line d w6 (HG.out.later HB4.out (Nat.le_refl _)) (by simp) hll HS6.out (fun x hx => by rw [List.mem_singleton.1 hx]; exact HRA.out _ HB4.out) (fun x hx => by rw [List.mem_singleton.1 hx]; exact HRO.out))
  rw [show [ruleIf r s 1].map RuleR.v = [(ruleIf r s 1).v] from rfl, pairsJ_one] at HP
  have HPM := hide (rule_parts r s kind line)
  have HL1 := hide (Nat.le_trans (pairsR_len (ruleIf r s 1).v kind line) (Nat.succ_le_succ (words_line hll).1))
  have HL2 := hide (Nat.le_trans (pairsR_len (ruleIf r s 2).v kind line) (Nat.succ_le_succ (words_line hll).1))
  have HL3 := hide (Nat.le_trans (pairsR_len (ruleAl r).v kind line) (Nat.succ_le_succ (words_line hll).1))
  obtain ⟨A, hA⟩ : ∃ A, pairsR (ruleIf r s 1).v kind line = A := ⟨_, rfl⟩
  obtain ⟨B, hB⟩ : ∃ B, pairsR (ruleIf r s 2).v kind line = B := ⟨_, rfl⟩
  obtain ⟨C, hC⟩ : ∃ C, pairsR (ruleAl r).v kind line = C := ⟨_, rfl⟩
  rw [hA] at HP HPM HL1
  rw [hB] at HPM HL2
  rw [hC] at HPM HL3
  have HAB := hide hB
  have HAC := hide hC
  clear hA hB hC HJF HS HB5 HS6
  have HJL : Hid (W3.heap.size + 1 < w6.heap.size) := HJB.out.lt
  go_wp2_with fail
  refine HP.out.mono ?_
  rintro e w7 ⟨av, rfl, oa, b7⟩
  replace HB4 := hide (HB4.out.trans (b7.mono HB4.out.size))
  replace HJB := hide (HJB.out.later b7)
  replace HRB4 := hide (HRB4.out.later b7)
  obtain ⟨aa, ac, rfl⟩ := id oa.1
  have HOA := hide (oa.sl encP_len)
  have HNA := hide oa.cap0
  have HLA : Hid (∀ b o, aa = some ⟨b, o, none⟩ → W3.heap.size + 1 < b) := fun b o e => by
    subst e
    have h1 := oa.lt b rfl
    have h2 := HJL.out
    omega
  have HSZ7 : Hid (W3.heap.size + 1 < w7.heap.size) := HJB.out.lt
  clear oa b7 HP j0 j1 j2 j3 HJL
  have k1 := HRB4.out.get (j := 1) rfl
  have z1 := HRB4.out.fz 1
  go_upto_region 11 with (fail)
  have HRB8 : Hid (Bk (w7.setCell ⟨w.heap.size, 1, none⟩ (.int .i64 2)) w.heap.size (encRule (ruleIf r s 2))) := HRB4.out.set (k := 1) (u := .int .i64 1) (.int .i64 2) rfl
  have HJB8 := hide (HJB.out.setO (p := ⟨w.heap.size, 1, none⟩) HNE.out.1 (.int .i64 2))
  have HB8 := hide (HB4.out.setCell (p := ⟨w.heap.size, 1, none⟩) (Nat.le_refl _) (.int .i64 2))
  have HOA8 := hide (HOA.out.kept ((KeptBut.refl (fun q => q = w.heap.size) w7).setCell (p := ⟨w.heap.size, 1, none⟩) rfl (.int .i64 2)) (fun b o e h => by have h1 := HLA.out b o e; have h2 := HNE.out.2; omega))
  clear HRB4 HJB HB4 HOA k1 z1
  generalize w7.setCell ⟨w.heap.size, 1, none⟩ (.int .i64 2) = W8 at *
  have HRB := HRB8
  have k0 := HRB.out.get (j := 0) rfl
  have k1 := HRB.out.get (j := 1) rfl
  have k2 := HRB.out.get (j := 2) rfl
  have k3 := HRB.out.get (j := 3) rfl
  have k4 := HRB.out.get (j := 4) rfl
  have k5 := HRB.out.get (j := 5) rfl
  have k6 := HRB.out.get (j := 6) rfl
  have k7 := HRB.out.get (j := 7) rfl
  have k8 := HRB.out.get (j := 8) rfl
  have k9 := HRB.out.get (j := 9) rfl
  have k10 := HRB.out.get (j := 10) rfl
  have k11 := HRB.out.get (j := 11) rfl
  have k12 := HRB.out.get (j := 12) rfl
  have k13 := HRB.out.get (j := 13) rfl
  have k14 := HRB.out.get (j := 14) rfl
  have hb9 : Below W8.heap.size W8 (W8.alloc (.cells #[.bool (ruleIf r s 2).each, .int .i64 (ruleIf r s 2).when_, .int .i64 (ruleIf r s 2).cond.k, .int .i64 (ruleIf r s 2).cond.n, .string (ruleIf r s 2).cond.s, .slice (ruleIf r s 2).cond.ao (ruleIf r s 2).cond.a.length (ruleIf r s 2).cond.cap, .string (ruleIf r s 2).txt, .int .i64 (ruleIf r s 2).key.k, .int .i64 (ruleIf r s 2).key.n, .string (ruleIf r s 2).key.s, .slice (ruleIf r s 2).key.ao (ruleIf r s 2).key.a.length (ruleIf r s 2).key.cap, .int .i64 (ruleIf r s 2).val.k, .int .i64 (ruleIf r s 2).val.n, .string (ruleIf r s 2).val.s, .slice (ruleIf r s 2).val.ao (ruleIf r s 2).val.a.length (ruleIf r s 2).val.cap] 38)) := (Below.refl _ _).alloc (Nat.le_refl _) _
  have j0 := (HJB8.out.later hb9).get (j := 0) rfl
  have z0 := (HJB8.out.later hb9).fz 0
  have HBB := hide hb9
  clear hb9
  go_upto_region 12 with (fail)
  have hs9 : Sl 15 encRule (W8.alloc (.cells #[.bool (ruleIf r s 2).each, .int .i64 (ruleIf r s 2).when_, .int .i64 (ruleIf r s 2).cond.k, .int .i64 (ruleIf r s 2).cond.n, .string (ruleIf r s 2).cond.s, .slice (ruleIf r s 2).cond.ao (ruleIf r s 2).cond.a.length (ruleIf r s 2).cond.cap, .string (ruleIf r s 2).txt, .int .i64 (ruleIf r s 2).key.k, .int .i64 (ruleIf r s 2).key.n, .string (ruleIf r s 2).key.s, .slice (ruleIf r s 2).key.ao (ruleIf r s 2).key.a.length (ruleIf r s 2).key.cap, .int .i64 (ruleIf r s 2).val.k, .int .i64 (ruleIf r s 2).val.n, .string (ruleIf r s 2).val.s, .slice (ruleIf r s 2).val.ao (ruleIf r s 2).val.a.length (ruleIf r s 2).val.cap] 38)) (some ⟨W8.heap.size, 0, none⟩) [ruleIf r s 2] := Sl.lit encRule_len (heap_new _ _) rfl
  have hkb : KeptBut (fun q => q = W3.heap.size + 1) W8 ((W8.alloc (.cells #[.bool (ruleIf r s 2).each, .int .i64 (ruleIf r s 2).when_, .int .i64 (ruleIf r s 2).cond.k, .int .i64 (ruleIf r s 2).cond.n, .string (ruleIf r s 2).cond.s, .slice (ruleIf r s 2).cond.ao (ruleIf r s 2).cond.a.length (ruleIf r s 2).cond.cap, .string (ruleIf r s 2).txt, .int .i64 (ruleIf r s 2).key.k, .int .i64 (ruleIf r s 2).key.n, .string (ruleIf r s 2).key.s, .slice (ruleIf r s 2).key.ao (ruleIf r s 2).key.a.length (ruleIf r s 2).key.cap, .int .i64 (ruleIf r s 2).val.k, .int .i64 (ruleIf r s 2).val.n, .string (ruleIf r s 2).val.s, .slice (ruleIf r s 2).val.ao (ruleIf r s 2).val.a.length (ruleIf r s 2).val.cap] 38)).setCell ⟨W3.heap.size + 1, 0, none⟩ (.slice (some ⟨W8.heap.size, 0, none⟩) 1 1)) := ((KeptBut.refl (fun q => q = W3.heap.size + 1) W8).alloc _).setCell (p := ⟨W3.heap.size + 1, 0, none⟩) rfl _
  have hz8 : W3.heap.size + 1 < W8.heap.size := HJB8.out.lt
  have HS9 := hide (hs9.kept ((KeptBut.refl (fun q => q = W3.heap.size + 1) _).setCell (p := ⟨W3.heap.size + 1, 0, none⟩) rfl (.slice (some ⟨W8.heap.size, 0, none⟩) 1 1)) (fun b o e h => by cases e; omega))
  have HJB9 : Hid (Bk ((W8.alloc (.cells #[.bool (ruleIf r s 2).each, .int .i64 (ruleIf r s 2).when_, .int .i64 (ruleIf r s 2).cond.k, .int .i64 (ruleIf r s 2).cond.n, .string (ruleIf r s 2).cond.s, .slice (ruleIf r s 2).cond.ao (ruleIf r s 2).cond.a.length (ruleIf r s 2).cond.cap, .string (ruleIf r s 2).txt, .int .i64 (ruleIf r s 2).key.k, .int .i64 (ruleIf r s 2).key.n, .string (ruleIf r s 2).key.s, .slice (ruleIf r s 2).key.ao (ruleIf r s 2).key.a.length (ruleIf r s 2).key.cap, .int .i64 (ruleIf r s 2).val.k, .int .i64 (ruleIf r s 2).val.n, .string (ruleIf r s 2).val.s, .slice (ruleIf r s 2).val.ao (ruleIf r s 2).val.a.length (ruleIf r s 2).val.cap] 38)).setCell ⟨W3.heap.size + 1, 0, none⟩ (.slice (some ⟨W8.heap.size, 0, none⟩) 1 1)) (W3.heap.size + 1) [.slice (some ⟨W8.heap.size, 0, none⟩) 1 1, .int .i64 kind, .bool false, .int .i64 1]) := (HJB8.out.later HBB.out).set (k := 0) (u := .slice (some ⟨W3.heap.size, 0, none⟩) 1 1) (.slice (some ⟨W8.heap.size, 0, none⟩) 1 1) rfl
  have HB9 := hide ((HB8.out.trans (HBB.out.mono HB8.out.size)).setCell (p := ⟨W3.heap.size + 1, 0, none⟩) (by have h2 := HNE.out.2; show w.heap.size ≤ W3.heap.size + 1; omega) (.slice (some ⟨W8.heap.size, 0, none⟩) 1 1))
  have HRB9 := hide (HRB8.out.kept hkb (fun e => HNE.out.1 e))
  have HOA9 := hide (HOA8.out.kept hkb (fun b o e h => by have h1 := HLA.out b o e; omega))
  clear HRB HRB8 HJB8 HB8 HOA8 hs9 hkb hz8 HBB j0 z0 k0 k1 k2 k3 k4 k5 k6 k7 k8 k9 k10 k11 k12 k13 k14
  obtain ⟨rb2, hrb2⟩ : ∃ rb2, W8.heap.size = rb2 := ⟨_, rfl⟩
  generalize ((W8.alloc (.cells #[.bool (ruleIf r s 2).each, .int .i64 (ruleIf r s 2).when_, .int .i64 (ruleIf r s 2).cond.k, .int .i64 (ruleIf r s 2).cond.n, .string (ruleIf r s 2).cond.s, .slice (ruleIf r s 2).cond.ao (ruleIf r s 2).cond.a.length (ruleIf r s 2).cond.cap, .string (ruleIf r s 2).txt, .int .i64 (ruleIf r s 2).key.k, .int .i64 (ruleIf r s 2).key.n, .string (ruleIf r s 2).key.s, .slice (ruleIf r s 2).key.ao (ruleIf r s 2).key.a.length (ruleIf r s 2).key.cap, .int .i64 (ruleIf r s 2).val.k, .int .i64 (ruleIf r s 2).val.n, .string (ruleIf r s 2).val.s, .slice (ruleIf r s 2).val.ao (ruleIf r s 2).val.a.length (ruleIf r s 2).val.cap] 38)).setCell ⟨W3.heap.size + 1, 0, none⟩ (.slice (some ⟨W8.heap.size, 0, none⟩) 1 1)) = W9 at *
  rw [hrb2] at HS9 HJB9 ⊢
  clear hrb2
  have HP2 := hide (Pairs_any (some ⟨rb2, 0, none⟩) 1 [ruleIf r s 2] kind 1 false line d W9 (HG.out.later HB9.out (Nat.le_refl _)) (by simp) hll HS9.out (fun x hx => by rw [List.mem_singleton.1 hx]; exact ruleIf_at (HR.out.later HB9.out (Nat.le_refl _)) s 2 HSS.out) (fun x hx => by rw [List.mem_singleton.1 hx]; exact ruleIf_ok HRO.out))
  rw [show [ruleIf r s 2].map RuleR.v = [(ruleIf r s 2).v] from rfl, pairsJ_one, HAB.out] at HP2
  have j0 := HJB9.out.get (j := 0) rfl
  have j1 := HJB9.out.get (j := 1) rfl
  have j2 := HJB9.out.get (j := 2) rfl
  have j3 := HJB9.out.get (j := 3) rfl
  have HJL : Hid (W3.heap.size + 1 < W9.heap.size) := HJB9.out.lt
  clear HS9
  go_wp2_with fail
  refine HP2.out.mono ?_
  rintro e w10 ⟨bv, rfl, ob, b10⟩
  replace HB9 := hide (HB9.out.trans (b10.mono HB9.out.size))
  replace HJB9 := hide (HJB9.out.later b10)
  replace HRB9 := hide (HRB9.out.later b10)
  replace HOA9 := hide (HOA9.out.later b10 (Nat.le_refl _))
  obtain ⟨ba, bc, rfl⟩ := id ob.1
  have HOB := hide (ob.sl encP_len)
  have HNB := hide ob.cap0
  have HLB : Hid (∀ b o, ba = some ⟨b, o, none⟩ → W3.heap.size + 1 < b) := fun b o e => by
    subst e
    have h1 := ob.lt b rfl
    have h2 := HJL.out
    omega
  clear ob b10 HP2 j0 j1 j2 j3 HJL HAB
  have k1 := HRB9.out.get (j := 1) rfl
  have k2 := HRB9.out.get (j := 2) rfl
  have k3 := HRB9.out.get (j := 3) rfl
  have k4 := HRB9.out.get (j := 4) rfl
  have k5 := HRB9.out.get (j := 5) rfl
  have k6 := HRB9.out.get (j := 6) rfl
  have z1 := HRB9.out.fz 1
  have z2 := HRB9.out.fz 2
  have z3 := HRB9.out.fz 3
  have z4 := HRB9.out.fz 4
  have z5 := HRB9.out.fz 5
  have z6 := HRB9.out.fz 6
  go_upto_region 16 with (fail)
  have hkc : KeptBut (fun q => q = w.heap.size) w10 ((((((w10.setCell ⟨w.heap.size, 1, none⟩ (.int .i64 0)).setCell ⟨w.heap.size, 6, none⟩ (.string ⟨#[]⟩)).setCell ⟨w.heap.size, 2, none⟩ (.int .i64 0)).setCell ⟨w.heap.size, 3, none⟩ (.int .i64 0)).setCell ⟨w.heap.size, 4, none⟩ (.string ⟨#[]⟩)).setCell ⟨w.heap.size, 5, none⟩ (.slice none 0 0)) := ((((((KeptBut.refl (fun q => q = w.heap.size) w10).setCell (p := ⟨w.heap.size, 1, none⟩) rfl (.int .i64 0)).setCell (p := ⟨w.heap.size, 6, none⟩) rfl (.string ⟨#[]⟩)).setCell (p := ⟨w.heap.size, 2, none⟩) rfl (.int .i64 0)).setCell (p := ⟨w.heap.size, 3, none⟩) rfl (.int .i64 0)).setCell (p := ⟨w.heap.size, 4, none⟩) rfl (.string ⟨#[]⟩)).setCell (p := ⟨w.heap.size, 5, none⟩) rfl (.slice none 0 0)
  have HRB11 : Hid (Bk ((((((w10.setCell ⟨w.heap.size, 1, none⟩ (.int .i64 0)).setCell ⟨w.heap.size, 6, none⟩ (.string ⟨#[]⟩)).setCell ⟨w.heap.size, 2, none⟩ (.int .i64 0)).setCell ⟨w.heap.size, 3, none⟩ (.int .i64 0)).setCell ⟨w.heap.size, 4, none⟩ (.string ⟨#[]⟩)).setCell ⟨w.heap.size, 5, none⟩ (.slice none 0 0)) w.heap.size (encRule (ruleAl r))) := ((((((HRB9.out.set (k := 1) (u := .int .i64 2) (.int .i64 0) rfl).set (k := 6) (u := .string s) (.string ⟨#[]⟩) rfl).set (k := 2) (u := .int .i64 r.cond.k) (.int .i64 0) rfl).set (k := 3) (u := .int .i64 r.cond.n) (.int .i64 0) rfl).set (k := 4) (u := .string r.cond.s) (.string ⟨#[]⟩) rfl).set (k := 5) (u := .slice r.cond.ao r.cond.a.length r.cond.cap) (.slice none 0 0) rfl)
  have HB11 : Hid (Below w.heap.size w ((((((w10.setCell ⟨w.heap.size, 1, none⟩ (.int .i64 0)).setCell ⟨w.heap.size, 6, none⟩ (.string ⟨#[]⟩)).setCell ⟨w.heap.size, 2, none⟩ (.int .i64 0)).setCell ⟨w.heap.size, 3, none⟩ (.int .i64 0)).setCell ⟨w.heap.size, 4, none⟩ (.string ⟨#[]⟩)).setCell ⟨w.heap.size, 5, none⟩ (.slice none 0 0))) := ((((((HB9.out.setCell (p := ⟨w.heap.size, 1, none⟩) (Nat.le_refl _) (.int .i64 0)).setCell (p := ⟨w.heap.size, 6, none⟩) (Nat.le_refl _) (.string ⟨#[]⟩)).setCell (p := ⟨w.heap.size, 2, none⟩) (Nat.le_refl _) (.int .i64 0)).setCell (p := ⟨w.heap.size, 3, none⟩) (Nat.le_refl _) (.int .i64 0)).setCell (p := ⟨w.heap.size, 4, none⟩) (Nat.le_refl _) (.string ⟨#[]⟩)).setCell (p := ⟨w.heap.size, 5, none⟩) (Nat.le_refl _) (.slice none 0 0))
  have HJB11 := hide (HJB9.out.kept hkc (fun e => HNE.out.1 e.symm))
  have HOA11 := hide (HOA9.out.kept hkc (fun b o e h => by have h1 := HLA.out b o e; have h2 := HNE.out.2; omega))
  have HOB11 := hide (HOB.out.kept hkc (fun b o e h => by have h1 := HLB.out b o e; have h2 := HNE.out.2; omega))
  clear hkc HRB9 HB9 HJB9 HOA9 HOB k1 k2 k3 k4 k5 k6 z1 z2 z3 z4 z5 z6
  generalize ((((((w10.setCell ⟨w.heap.size, 1, none⟩ (.int .i64 0)).setCell ⟨w.heap.size, 6, none⟩ (.string ⟨#[]⟩)).setCell ⟨w.heap.size, 2, none⟩ (.int .i64 0)).setCell ⟨w.heap.size, 3, none⟩ (.int .i64 0)).setCell ⟨w.heap.size, 4, none⟩ (.string ⟨#[]⟩)).setCell ⟨w.heap.size, 5, none⟩ (.slice none 0 0)) = W11 at *
  have HRB := HRB11
  have k0 := HRB.out.get (j := 0) rfl
  have k1 := HRB.out.get (j := 1) rfl
  have k2 := HRB.out.get (j := 2) rfl
  have k3 := HRB.out.get (j := 3) rfl
  have k4 := HRB.out.get (j := 4) rfl
  have k5 := HRB.out.get (j := 5) rfl
  have k6 := HRB.out.get (j := 6) rfl
  have k7 := HRB.out.get (j := 7) rfl
  have k8 := HRB.out.get (j := 8) rfl
  have k9 := HRB.out.get (j := 9) rfl
  have k10 := HRB.out.get (j := 10) rfl
  have k11 := HRB.out.get (j := 11) rfl
  have k12 := HRB.out.get (j := 12) rfl
  have k13 := HRB.out.get (j := 13) rfl
  have k14 := HRB.out.get (j := 14) rfl
  have hb12 : Below W11.heap.size W11 (W11.alloc (.cells #[.bool (ruleAl r).each, .int .i64 (ruleAl r).when_, .int .i64 (ruleAl r).cond.k, .int .i64 (ruleAl r).cond.n, .string (ruleAl r).cond.s, .slice (ruleAl r).cond.ao (ruleAl r).cond.a.length (ruleAl r).cond.cap, .string (ruleAl r).txt, .int .i64 (ruleAl r).key.k, .int .i64 (ruleAl r).key.n, .string (ruleAl r).key.s, .slice (ruleAl r).key.ao (ruleAl r).key.a.length (ruleAl r).key.cap, .int .i64 (ruleAl r).val.k, .int .i64 (ruleAl r).val.n, .string (ruleAl r).val.s, .slice (ruleAl r).val.ao (ruleAl r).val.a.length (ruleAl r).val.cap] 38)) := (Below.refl _ _).alloc (Nat.le_refl _) _
  have j0 := (HJB11.out.later hb12).get (j := 0) rfl
  have z0 := (HJB11.out.later hb12).fz 0
  have HBB := hide hb12
  clear hb12
  go_upto_region 17 with (fail)
  have hs12 : Sl 15 encRule (W11.alloc (.cells #[.bool (ruleAl r).each, .int .i64 (ruleAl r).when_, .int .i64 (ruleAl r).cond.k, .int .i64 (ruleAl r).cond.n, .string (ruleAl r).cond.s, .slice (ruleAl r).cond.ao (ruleAl r).cond.a.length (ruleAl r).cond.cap, .string (ruleAl r).txt, .int .i64 (ruleAl r).key.k, .int .i64 (ruleAl r).key.n, .string (ruleAl r).key.s, .slice (ruleAl r).key.ao (ruleAl r).key.a.length (ruleAl r).key.cap, .int .i64 (ruleAl r).val.k, .int .i64 (ruleAl r).val.n, .string (ruleAl r).val.s, .slice (ruleAl r).val.ao (ruleAl r).val.a.length (ruleAl r).val.cap] 38)) (some ⟨W11.heap.size, 0, none⟩) [ruleAl r] := Sl.lit encRule_len (heap_new _ _) rfl
  have hkb : KeptBut (fun q => q = W3.heap.size + 1) W11 ((W11.alloc (.cells #[.bool (ruleAl r).each, .int .i64 (ruleAl r).when_, .int .i64 (ruleAl r).cond.k, .int .i64 (ruleAl r).cond.n, .string (ruleAl r).cond.s, .slice (ruleAl r).cond.ao (ruleAl r).cond.a.length (ruleAl r).cond.cap, .string (ruleAl r).txt, .int .i64 (ruleAl r).key.k, .int .i64 (ruleAl r).key.n, .string (ruleAl r).key.s, .slice (ruleAl r).key.ao (ruleAl r).key.a.length (ruleAl r).key.cap, .int .i64 (ruleAl r).val.k, .int .i64 (ruleAl r).val.n, .string (ruleAl r).val.s, .slice (ruleAl r).val.ao (ruleAl r).val.a.length (ruleAl r).val.cap] 38)).setCell ⟨W3.heap.size + 1, 0, none⟩ (.slice (some ⟨W11.heap.size, 0, none⟩) 1 1)) := ((KeptBut.refl (fun q => q = W3.heap.size + 1) W11).alloc _).setCell (p := ⟨W3.heap.size + 1, 0, none⟩) rfl _
  have hz11 : W3.heap.size + 1 < W11.heap.size := HJB11.out.lt
  have HS12 := hide (hs12.kept ((KeptBut.refl (fun q => q = W3.heap.size + 1) _).setCell (p := ⟨W3.heap.size + 1, 0, none⟩) rfl (.slice (some ⟨W11.heap.size, 0, none⟩) 1 1)) (fun b o e h => by cases e; omega))
  have HJB12 : Hid (Bk ((W11.alloc (.cells #[.bool (ruleAl r).each, .int .i64 (ruleAl r).when_, .int .i64 (ruleAl r).cond.k, .int .i64 (ruleAl r).cond.n, .string (ruleAl r).cond.s, .slice (ruleAl r).cond.ao (ruleAl r).cond.a.length (ruleAl r).cond.cap, .string (ruleAl r).txt, .int .i64 (ruleAl r).key.k, .int .i64 (ruleAl r).key.n, .string (ruleAl r).key.s, .slice (ruleAl r).key.ao (ruleAl r).key.a.length (ruleAl r).key.cap, .int .i64 (ruleAl r).val.k, .int .i64 (ruleAl r).val.n, .string (ruleAl r).val.s, .slice (ruleAl r).val.ao (ruleAl r).val.a.length (ruleAl r).val.cap] 38)).setCell ⟨W3.heap.size + 1, 0, none⟩ (.slice (some ⟨W11.heap.size, 0, none⟩) 1 1)) (W3.heap.size + 1) [.slice (some ⟨W11.heap.size, 0, none⟩) 1 1, .int .i64 kind, .bool false, .int .i64 1]) := (HJB11.out.later HBB.out).set (k := 0) (u := .slice (some ⟨rb2, 0, none⟩) 1 1) (.slice (some ⟨W11.heap.size, 0, none⟩) 1 1) rfl
  have HB12 := hide ((HB11.out.trans (HBB.out.mono HB11.out.size)).setCell (p := ⟨W3.heap.size + 1, 0, none⟩) (by have h2 := HNE.out.2; show w.heap.size ≤ W3.heap.size + 1; omega) (.slice (some ⟨W11.heap.size, 0, none⟩) 1 1))
  have HOA12 := hide (HOA11.out.kept hkb (fun b o e h => by have h1 := HLA.out b o e; omega))
  have HOB12 := hide (HOB11.out.kept hkb (fun b o e h => by have h1 := HLB.out b o e; omega))
  clear HRB HRB11 HJB11 HB11 HOA11 HOB11 hs12 hkb hz11 HBB j0 z0 k0 k1 k2 k3 k4 k5 k6 k7 k8 k9 k10 k11 k12 k13 k14
  obtain ⟨rb3, hrb3⟩ : ∃ rb3, W11.heap.size = rb3 := ⟨_, rfl⟩
  generalize ((W11.alloc (.cells #[.bool (ruleAl r).each, .int .i64 (ruleAl r).when_, .int .i64 (ruleAl r).cond.k, .int .i64 (ruleAl r).cond.n, .string (ruleAl r).cond.s, .slice (ruleAl r).cond.ao (ruleAl r).cond.a.length (ruleAl r).cond.cap, .string (ruleAl r).txt, .int .i64 (ruleAl r).key.k, .int .i64 (ruleAl r).key.n, .string (ruleAl r).key.s, .slice (ruleAl r).key.ao (ruleAl r).key.a.length (ruleAl r).key.cap, .int .i64 (ruleAl r).val.k, .int .i64 (ruleAl r).val.n, .string (ruleAl r).val.s, .slice (ruleAl r).val.ao (ruleAl r).val.a.length (ruleAl r).val.cap] 38)).setCell ⟨W3.heap.size + 1, 0, none⟩ (.slice (some ⟨W11.heap.size, 0, none⟩) 1 1)) = W12 at *
  rw [hrb3] at HS12 HJB12 ⊢
  clear hrb3
  have HP3 := hide (Pairs_any (some ⟨rb3, 0, none⟩) 1 [ruleAl r] kind 1 false line (max d 1) W12 (HG.out.later HB12.out (Nat.le_refl _)) (by simp) hll HS12.out (fun x hx => by rw [List.mem_singleton.1 hx]; exact ruleAl_at (HR.out.later HB12.out (Nat.le_refl _))) (fun x hx => by rw [List.mem_singleton.1 hx]; exact ruleAl_ok HRO.out))
  rw [show [ruleAl r].map RuleR.v = [(ruleAl r).v] from rfl, pairsJ_one, HAC.out] at HP3
  have j0 := HJB12.out.get (j := 0) rfl
  have j1 := HJB12.out.get (j := 1) rfl
  have j2 := HJB12.out.get (j := 2) rfl
  have j3 := HJB12.out.get (j := 3) rfl
  clear HS12
  go_wp2_with fail
  refine HP3.out.mono ?_
  rintro e w13 ⟨cv, rfl, oc, b13⟩
  replace HB12 := hide (HB12.out.trans (b13.mono HB12.out.size))
  replace HOA12 := hide (HOA12.out.later b13 (Nat.le_refl _))
  replace HOB12 := hide (HOB12.out.later b13 (Nat.le_refl _))
  obtain ⟨ca, cc, rfl⟩ := id oc.1
  have HOC := hide (oc.sl encP_len)
  have HLC : Hid (∀ b o, ca = some ⟨b, o, none⟩ → b < w13.heap.size) := fun b o e => by
    subst e
    exact (oc.lt b rfl).2
  clear oc b13 HP3 j0 j1 j2 j3 HJB12 HAC HLA HLB HNE HRA HR HRO HSS
  have HS13 := hide HB12.out.size
  have HON : Hid (Own 2 encP 54 w13 w13.heap.size (.slice none 0 0) []) := Own.nil
  have HLN1 : Hid (([] : List Pr).length + A.length ≤ 1000000000) := by have := HL1.out; show _ ≤ _; simp; omega
  go_wp2_with (at_builtin; refine wpList_append_any encP_len _ _ 30 i0 _ rfl rfl Tryd.underlying30 hi0 hz0 hz1 hz2 rfl (by decide) (by decide) HON.out (Below.refl _ _) (Nat.le_refl _) A HLN1.out rfl aa ac A.length rfl rfl HNA.out HOA12.out (one_flat one_pair) ?_)
  intro v14 w14 o14 b14 _ _
  have HO14 := hide o14
  have HSZ14 := hide b14.size
  replace HB12 := hide (HB12.out.trans (b14.mono HB12.out.size))
  replace HOB12 := hide (HOB12.out.later b14 (Nat.le_refl _))
  replace HOC := hide (HOC.out.later b14 (Nat.le_refl _))
  clear o14 b14 HON HLN1 HOA12
  have HLN2 : Hid (A.length + B.length ≤ 1000000000) := by have := HL1.out; have := HL2.out; show _ ≤ _; omega
  go_wp2_with (at_builtin; refine wpList_append_any encP_len _ _ 30 i0 _ rfl rfl Tryd.underlying30 hi0 hz0 hz1 hz2 rfl (by decide) (by decide) HO14.out (Below.refl _ _) HSZ14.out B HLN2.out rfl ba bc B.length rfl rfl HNB.out HOB12.out (one_flat one_pair) ?_)
  intro v15 w15 o15 b15 g15 _
  have HUB : Hid (∀ q, v14.ownBlock = some q → w13.heap.size ≤ q) := fun q e => (HO14.out.lt q e).1
  have HOC15 := hide (HOC.out.kept (KeptBut.of_grown (S := fun q => v14.ownBlock = some q) g15 fun q e => e) (fun b o e h => by have h1 := HLC.out b o e; have h2 := HUB.out b h; omega))
  have HB15 := hide (HB12.out.trans (b15.mono HS13.out))
  obtain ⟨da, dc, rfl⟩ := id o15.1
  have HOD := hide (o15.sl encP_len)
  have e1 : A.length + B.length = C.length := by have := HPM.out.length_eq; rw [List.length_append] at this; exact this
  have e2 : ((A.length : Int) + (B.length : Int) == (C.length : Int)) = true := by rw [beq_iff_eq]; omega
  have e3 : (A.length + B.length == C.length) = true := by rw [beq_iff_eq]; exact e1
  have l1 : A.length ≤ 502 := HL1.out
  have l2 : B.length ≤ 502 := HL2.out
  have l3 : C.length ≤ 502 := HL3.out
  have hdl : (A ++ B).length ≤ 1000000 := by rw [List.length_append]; omega
  have HSK := hide (srt_keys HPM.out)
  have HGP := hide (grp_perm (k := 1) HPM.out)
  unfold grp at HGP
  obtain ⟨D, hD⟩ : ∃ D, A ++ B = D := ⟨_, rfl⟩
  have hDl : A.length + B.length = D.length := by rw [← hD, List.length_append]
  rw [hD] at HOD HSK HGP hdl ⊢
  clear hD HOB12 HOC HO14 HLC HUB o15 b15 g15 HPM HNA HNB HLN2 HSZ14 HS13 HL1 HL2 HL3
  obtain ⟨GL, hGL⟩ : ∃ GL, groups 1 (srt D) = GL := ⟨_, rfl⟩
  rw [hGL] at HGP
  have HGLD := hide hGL
  clear hGL
  obtain ⟨KL, hKL⟩ : ∃ KL, (srt D).map (·.1) = KL := ⟨_, rfl⟩
  have HQ1 := hide (Sort_any da dc D w15 (by omega) HOD.out)
  have HDL := hide hDl
  have HC1 := hide (show (srt D).length ≤ 1000000 by have := srt_len D; omega)
  have HC2 := hide (show (srt C).length ≤ 1000000 by have := srt_len C; omega)
  have HC3 := hide (show (groups 1 (srt C)).length ≤ 1000000 by have := srt_len C; have := groups_length 1 (srt C); omega)
  have hdl3 : D.length ≤ 1000000 := by omega
  have hkl : KL.length ≤ 1000000000 := by rw [← hKL, List.length_map]; have := HC1.out; omega
  rw [hKL] at HSK
  have HKL := hide hKL
  clear hKL
  clear hDl hdl
  go_wp2_with fail
  refine HQ1.out.mono ?_
  rintro e w16 ⟨v16, rfl, o16, b16⟩
  obtain ⟨ea, ec, rfl⟩ := id o16.1
  have HK1 := hide (keys_any ea ec (srt D) w16 HC1.out (o16.sl encP_len))
  rw [HKL.out] at HK1
  replace HB15 := hide (HB15.out.trans (b16.mono HB15.out.size))
  replace HOD := hide (HOD.out.later b16 (Nat.le_refl _))
  replace HOC15 := hide (HOC15.out.later b16 (Nat.le_refl _))
  clear o16 b16 HQ1
  go_wp2_with fail
  refine HK1.out.mono ?_
  rintro e w17 ⟨v17, rfl, o17, b17⟩
  obtain ⟨fa, fc, rfl⟩ := id o17.1
  have HF := hide (o17.sl encS_len)
  replace HB15 := hide (HB15.out.trans (b17.mono HB15.out.size))
  replace HOD := hide (HOD.out.later b17 (Nat.le_refl _))
  replace HOC15 := hide (HOC15.out.later b17 (Nat.le_refl _))
  clear o17 b17 HK1
  have HQ2 := hide (Sort_any ca cc C w17 (by omega) HOC15.out)
  go_wp2_with fail
  refine HQ2.out.mono ?_
  rintro e w18 ⟨v18, rfl, o18, b18⟩
  obtain ⟨ga, gc, rfl⟩ := id o18.1
  have HK2 := hide (keys_any ga gc (srt C) w18 HC2.out (o18.sl encP_len))
  rw [← HSK.out] at HK2
  replace HB15 := hide (HB15.out.trans (b18.mono HB15.out.size))
  replace HOD := hide (HOD.out.later b18 (Nat.le_refl _))
  replace HOC15 := hide (HOC15.out.later b18 (Nat.le_refl _))
  replace HF := hide (HF.out.later b18 (Nat.le_refl _))
  clear o18 b18 HQ2
  go_wp2_with fail
  refine HK2.out.mono ?_
  rintro e w19 ⟨v19, rfl, o19, b19⟩
  obtain ⟨ha, hc, rfl⟩ := id o19.1
  have HH := hide (o19.sl encS_len)
  replace HB15 := hide (HB15.out.trans (b19.mono HB15.out.size))
  replace HOD := hide (HOD.out.later b19 (Nat.le_refl _))
  replace HOC15 := hide (HOC15.out.later b19 (Nat.le_refl _))
  replace HF := hide (HF.out.later b19 (Nat.le_refl _))
  have HST := hide (SameTexts_refl fa ha fc hc KL w19 hkl HF.out HH.out)
  clear o19 b19 HK2
  go_wp2_with fail
  refine HST.out.mono ?_
  rintro e w20 ⟨rfl, b20⟩
  replace HB15 := hide (HB15.out.trans (b20.mono HB15.out.size))
  replace HOD := hide (HOD.out.later b20 (Nat.le_refl _))
  replace HOC15 := hide (HOC15.out.later b20 (Nat.le_refl _))
  clear b20 HST HF HH
  have HQ3 := hide (Sort_any da dc D w20 (by omega) HOD.out)
  go_wp2_with fail
  refine HQ3.out.mono ?_
  rintro e w21 ⟨v21, rfl, o21, b21⟩
  obtain ⟨ia, ic, rfl⟩ := id o21.1
  have HG1 := hide (Groups_any 1 ia ic (srt D) w21 (by have := HC1.out; omega) (o21.sl encP_len))
  rw [HGLD.out] at HG1
  replace HB15 := hide (HB15.out.trans (b21.mono HB15.out.size))
  replace HOC15 := hide (HOC15.out.later b21 (Nat.le_refl _))
  clear o21 b21 HQ3 HOD
  go_wp2_with fail
  refine HG1.out.mono ?_
  rintro e w22 ⟨v22, rfl, o22, b22⟩
  obtain ⟨ja, jc, rfl⟩ := id o22.1
  have HJ := hide (o22.sl encP_len)
  replace HB15 := hide (HB15.out.trans (b22.mono HB15.out.size))
  replace HOC15 := hide (HOC15.out.later b22 (Nat.le_refl _))
  clear o22 b22 HG1
  have HQ4 := hide (Sort_any ca cc C w22 (by omega) HOC15.out)
  go_wp2_with fail
  refine HQ4.out.mono ?_
  rintro e w23 ⟨v23, rfl, o23, b23⟩
  obtain ⟨ka, kc, rfl⟩ := id o23.1
  have HG2 := hide (Groups_any 1 ka kc (srt C) w23 (by have := HC2.out; omega) (o23.sl encP_len))
  rw [← HGP.out] at HG2
  replace HB15 := hide (HB15.out.trans (b23.mono HB15.out.size))
  replace HJ := hide (HJ.out.later b23 (Nat.le_refl _))
  clear o23 b23 HQ4 HOC15
  go_wp2_with fail
  refine HG2.out.mono ?_
  rintro e w24 ⟨v24, rfl, o24, b24⟩
  obtain ⟨la, lc, rfl⟩ := id o24.1
  have HL := hide (o24.sl encP_len)
  replace HB15 := hide (HB15.out.trans (b24.mono HB15.out.size))
  replace HJ := hide (HJ.out.later b24 (Nat.le_refl _))
  have hgl : GL.length ≤ maxLen := by rw [HGP.out]; have := HC3.out; show _ ≤ 2 ^ 63 - 1; omega
  have HSP := hide (SamePairs_refl ja la jc lc GL w24 hgl HJ.out HL.out)
  clear o24 b24 HG2
  go_wp2_with fail
  refine HSP.out.mono ?_
  rintro e w25 ⟨rfl, b25⟩
  replace HB15 := hide (HB15.out.trans (b25.mono HB15.out.size))
  clear b25 HSP HJ HL
  go_wp2
  go_ret
  exact ⟨rfl, HB15.out⟩
end Go.Proofs.YtafogaopccajaaaDoor
