/- TopRules: the law's walk. -/
import Derived.Test.YtafogaopccajaaaDoorReady
import Derived.Test.YtafogaopccajaaaDoorLightJob
import Derived.Test.YtafogaopccajaaaDoorJobOpen
set_option linter.unusedSimpArgs false
set_option linter.unusedVariables false
namespace Go.Proofs.YtafogaopccajaaaDoor
open Go.RowKit

set_option maxRecDepth 100000 in
set_option maxHeartbeats 4000000 in
theorem TopRules_walk (ro : Option Addr) (rc : Nat) (rs : List RuleR) (fold slices : Int) (early : Bool) (line : ByteArray) (w : World) (hg : GM w) (hj : JobIn w ro rc rs fold slices) (hline : line.size ≤ maxLen) :
    Calls Tryd.prog 3 #[.agg #[.slice ro rs.length rc, .int .i64 fold, .bool early, .int .i64 slices], .string line] w fun e w' => e = .returned (.bool true) ∧ Below w.heap.size w w' := by
  obtain ⟨i0, hi0, hz0, hz1, hz2⟩ := info_parts infoPair
  obtain ⟨W1, hW1⟩ : ∃ W, W = w.alloc (.cells #[.slice ro rs.length rc, .int .i64 fold, .bool early, .int .i64 slices] 24) := ⟨_, rfl⟩
  have hb1 : Below w.heap.size w W1 := by rw [hW1]; exact (Below.refl _ _).alloc (Nat.le_refl _) _
  have hbj : Bk W1 w.heap.size [.slice ro rs.length rc, .int .i64 fold, .bool early, .int .i64 slices] := by rw [hW1]; exact Bk.new rfl
  have hrc := hj.cap
  have hrl := hj.len
  unfold maxLen at hrc hrl
  have HJ := hide hj
  have HG := hide hg
  have HB := hide hb1
  have HBJ := hide hbj
  have HW1 := hide hW1
  have HRE := hide fun w' (hb : Below w.heap.size w w') => ready_any w' (hg.later hb (Nat.le_refl _))
  have HLJ := hide fun w' (hb : Below w.heap.size w w') => LightJob_any ro rc rs fold slices early w' hj.len (hj.sl.later hb (Nat.le_refl _)) fun r hr => by obtain ⟨d, h⟩ := hj.at_ r hr; exact ⟨d, h.later hb (Nat.le_refl _)⟩
  have HJC := hide fun w' (hb : Below w.heap.size w w') => jobCheck_any ro rc rs fold slices early w' hj.len (hj.sl.later hb (Nat.le_refl _)) fun r hr => by obtain ⟨d, h⟩ := hj.at_ r hr; exact ⟨d, h.later hb (Nat.le_refl _)⟩
  unfold SomeB at HLJ
  clear hb1 hbj hW1 hg
  go_enter Tryd.func3, Tryd.ntmps3
  go_upto_region 1 with (fail)
  rw [← HW1.out]
  clear HW1
  go_wp2_with fail
  refine (HRE.out _ HB.out).mono ?_
  rintro e w2 ⟨rfl, b2⟩
  replace HB := hide (HB.out.trans (b2.mono HB.out.size))
  replace HBJ := hide (HBJ.out.later b2)
  clear b2 HRE
  have j0 := HBJ.out.get (j := 0) rfl
  have j1 := HBJ.out.get (j := 1) rfl
  have j2 := HBJ.out.get (j := 2) rfl
  have j3 := HBJ.out.get (j := 3) rfl
  go_upto_region 4 with (fail)
  go_wp2_with fail
  refine (HLJ.out _ HB.out).mono ?_
  rintro e w3 ⟨⟨b, rfl⟩, b3⟩
  replace j0 := cell_later b3 j0
  replace j1 := cell_later b3 j1
  replace j2 := cell_later b3 j2
  replace j3 := cell_later b3 j3
  replace HB := hide (HB.out.trans (b3.mono HB.out.size))
  replace HBJ := hide (HBJ.out.later b3)
  clear b3 HLJ
  cases b with
  | false =>
    go_wp2
    go_ret
    exact ⟨rfl, HB.out⟩
  | true =>
  by_cases h120 : 120 < line.size
  · have g1 : decide ((120 : Int) < (line.size : Int)) = true := by simp; omega
    clear HJC
    go_wp2
    go_ret
    exact ⟨rfl, HB.out⟩
  have g1 : decide ((120 : Int) < (line.size : Int)) = false := by simp; omega
  obtain ⟨jf, hjf⟩ : ∃ jf, jobF (rs.map RuleR.v) fold slices = jf := ⟨_, rfl⟩
  have HJF := hide hjf
  rw [hjf] at HJC
  clear hjf
  go_wp2_with fail
  refine (HJC.out _ HB.out).mono ?_
  rintro e w4 ⟨rfl, b4⟩
  replace j0 := cell_later b4 j0
  replace j1 := cell_later b4 j1
  replace j2 := cell_later b4 j2
  replace j3 := cell_later b4 j3
  replace HB := hide (HB.out.trans (b4.mono HB.out.size))
  replace HBJ := hide (HBJ.out.later b4)
  clear b4 HJC
  by_cases hj0 : jf = 0
  case neg =>
    rw [errV_pos hj0]
    go_wp2
    go_ret
    exact ⟨rfl, HB.out⟩
  subst hj0
  rw [errV_zero]
  have HOKJ := hide (jobF_ok HJF.out)
  have hrn : rs.length ≤ 4 := by have := HOKJ.out.1.2; rw [List.length_map] at this; omega
  have HRO : Hid (∀ r ∈ rs, RuleOk r.v) := fun r hr => RuleOk.of (HOKJ.out.2.2.2 _ (List.mem_map_of_mem hr))
  obtain ⟨d, hd⟩ := rules_deep HJ.out.at_
  have HRD := hide hd
  have HP := hide fun (w' : World) (hb : Below w.heap.size w w') => Pairs_any ro rc rs fold slices early line d w' (HG.out.later hb (Nat.le_refl _)) (by omega) (by omega) (HJ.out.sl.later hb (Nat.le_refl _)) (fun r hr => (hd r hr).later hb (Nat.le_refl _)) HRO.out
  clear hd HJF
  go_wp2
  go_loopw [6, 7] (fun v i wr => ∃ k : Nat, k ≤ rs.length ∧ i = .int .i64 k ∧ Hid (Own 2 encP 54 wr (w.heap.size + 1) v (pairsJ ((rs.map RuleR.v).take k) fold line)) ∧ Hid (Below (w.heap.size + 1) w4 wr)) (fun _ i _ => rs.length - (intOf i).toNat)
  case atStart => exact ⟨0, by omega, by go_num, Own.nil, Below.refl _ _⟩
  case round =>
    obtain ⟨k, hk, rfl, HOW, HBE⟩ := hrel
    have HLT4 := hide HBJ.out.lt
    have HBW := hide (HB.out.trans (HBE.out.mono (Nat.le_succ _)))
    have q0 := (HBE.out.cell (p := ⟨w.heap.size, 0, none⟩) (Nat.lt_succ_self _)).trans j0
    have q1 := (HBE.out.cell (p := ⟨w.heap.size, 1, none⟩) (Nat.lt_succ_self _)).trans j1
    have q2 := (HBE.out.cell (p := ⟨w.heap.size, 2, none⟩) (Nat.lt_succ_self _)).trans j2
    have q3 := (HBE.out.cell (p := ⟨w.heap.size, 3, none⟩) (Nat.lt_succ_self _)).trans j3
    by_cases hlt : k < rs.length
    · obtain ⟨b, off, r, rfl, hbw, hlk, hc⟩ := HJ.out.sl.rule hlt
      have f1 : (0 : Int) ≤ (k : Int) ∧ (k : Int) < (rs.length : Int) ∧ (k : Int) + 1 ≤ (rs.length : Int) ∧ (k : Int) + 1 ≤ (rc : Int) := by omega
      obtain ⟨f1, f2, f3, f4⟩ := f1
      clear hc j0 j1 j2 j3
      go_upto_region 11 with (fail)
      have hba : Below wr.heap.size wr (wr.alloc (.cells #[.slice (some ⟨b, off, none⟩) rs.length rc, .int .i64 fold, .bool early, .int .i64 slices] 24)) := (Below.refl _ _).alloc (Nat.le_refl _) _
      have hbo : Bk (wr.alloc (.cells #[.slice (some ⟨b, off, none⟩) rs.length rc, .int .i64 fold, .bool early, .int .i64 slices] 24)) wr.heap.size [.slice (some ⟨b, off, none⟩) rs.length rc, .int .i64 fold, .bool early, .int .i64 slices] := Bk.new rfl
      generalize wr.alloc (.cells #[.slice (some ⟨b, off, none⟩) rs.length rc, .int .i64 fold, .bool early, .int .i64 slices] 24) = W5 at *
      replace q0 := cell_later hba q0
      have z0 := hbo.fz 0
      have o0 := hbo.get (j := 0) rfl
      have HBO := hide hbo
      have HOW5 := hide (HOW.out.later hba)
      have HUB : Hid (∀ q, u6.ownBlock = some q → w.heap.size + 1 ≤ q ∧ q < wr.heap.size) := HOW.out.lt
      have HWS : Hid (w.heap.size + 1 ≤ wr.heap.size) := Nat.le_trans HLT4.out HBE.out.size
      have HBE5 := hide (HBE.out.trans (hba.mono HWS.out))
      have HLK := hide hlk
      have HSU := hide (pairsJ_succ fold line (show (rs.map RuleR.v)[k]? = some r.v by rw [List.getElem?_map, hlk]; rfl))
      have HLT : Hid ((pairsJ ((rs.map RuleR.v).take k) fold line).length ≤ 2008) := by
        have h1 := pairsJ_small ((rs.map RuleR.v).take k) fold line (by omega)
        have h2 : ((rs.map RuleR.v).take k).length ≤ 4 := by rw [List.length_take, List.length_map]; omega
        have h3 := Nat.mul_le_mul_right 502 h2
        show _ ≤ _
        omega
      have HRL : Hid ((pairsR r.v fold line).length ≤ 502) := by
        have h1 := pairsR_len r.v fold line
        have h2 := (words_line (line := line) (by omega)).1
        show _ ≤ _
        omega
      generalize pairsJ ((rs.map RuleR.v).take k) fold line = acc at *
      clear hbo hba HOW HBE HBW hlk
      go_upto_region 12 with (fail)
      have hbs : Bk (W5.setCell ⟨wr.heap.size, 0, none⟩ (.slice (some ⟨b, off + k * 15, none⟩) 1 (rc - k))) wr.heap.size [.slice (some ⟨b, off + k * 15, none⟩) 1 (rc - k), .int .i64 fold, .bool early, .int .i64 slices] := HBO.out.set (k := 0) (u := .slice (some ⟨b, off, none⟩) rs.length rc) (.slice (some ⟨b, off + k * 15, none⟩) 1 (rc - k)) rfl
      have HOW6 := hide (HOW5.out.setOther (a := ⟨wr.heap.size, 0, none⟩) (fun e => absurd (show wr.heap.size < wr.heap.size from (HUB.out _ e).2) (by omega)) (.slice (some ⟨b, off + k * 15, none⟩) 1 (rc - k)))
      have HBE6 := hide (HBE5.out.setCell (p := ⟨wr.heap.size, 0, none⟩) HWS.out (.slice (some ⟨b, off + k * 15, none⟩) 1 (rc - k)))
      clear HOW5 HBE5 HBO q0 z0 o0
      generalize W5.setCell ⟨wr.heap.size, 0, none⟩ (.slice (some ⟨b, off + k * 15, none⟩) 1 (rc - k)) = W6 at *
      have p0 := hbs.get (j := 0) rfl
      have p1 := hbs.get (j := 1) rfl
      have p2 := hbs.get (j := 2) rfl
      have p3 := hbs.get (j := 3) rfl
      have HBW6 := hide (HB.out.trans (HBE6.out.mono (Nat.le_succ _)))
      have hone : (rs.drop k).take 1 = [r] := by
        obtain ⟨hl1, hx1⟩ := List.getElem?_eq_some_iff.1 HLK.out
        rw [List.drop_eq_getElem_cons hl1, hx1]; rfl
      have hsl1 := (HJ.out.sl.dropK k).takeK 1
      rw [hone] at hsl1
      have HP1 := hide (Pairs_any (some ⟨b, off + k * 15, none⟩) (rc - k) [r] fold slices early line d W6 (HG.out.later HBW6.out (Nat.le_refl _)) (by simp) (by omega) (hsl1.later HBW6.out (Nat.le_refl _)) (fun x hx => by rw [List.mem_singleton.1 hx]; exact (HRD.out r (List.mem_of_getElem? HLK.out)).later HBW6.out (Nat.le_refl _)) (fun x hx => by rw [List.mem_singleton.1 hx]; exact HRO.out r (List.mem_of_getElem? HLK.out)))
      rw [show [r].map RuleR.v = [r.v] from rfl, pairsJ_one] at HP1
      clear hbs hone hsl1
      generalize pairsR r.v fold line = made at *
      go_wp2_with fail
      refine HP1.out.mono ?_
      rintro e w7 ⟨v7, rfl, ho, b7⟩
      obtain ⟨va, vc, rfl⟩ := id ho.1
      have HN7 := hide ho.cap0
      have HS7 := hide (ho.sl encP_len)
      have HOW7 := hide (HOW6.out.later b7)
      have HWS7 : Hid (w.heap.size + 1 ≤ w7.heap.size) := by
        have h1 := HBE6.out.size
        have h2 := HLT4.out
        have h3 := b7.size
        show _ ≤ _
        omega
      have HBE7 := hide (HBE6.out.trans (b7.mono (Nat.le_trans HLT4.out HBE6.out.size)))
      have HLN : Hid (acc.length + made.length ≤ 1000000000) := by
        have h1 := HLT.out
        have h2 := HRL.out
        show _ ≤ _
        omega
      clear HP1 p0 p1 p2 p3 ho b7 HBE6 HOW6 HBW6
      go_wp2_with (at_builtin; refine wpList_append_any encP_len _ _ 30 i0 _ rfl rfl Tryd.underlying30 hi0 hz0 hz1 hz2 rfl (by decide) (by decide) HOW7.out HBE7.out HWS7.out made HLN.out rfl va vc made.length rfl rfl HN7.out HS7.out (one_flat one_pair) ?_)
      intro v' w8 ho8 hb8 _ _
      have HO8 := hide ho8
      have HB8 := hide hb8
      clear ho8 hb8 HOW7 HBE7 HS7 HN7
      go_wp2
      go_roundw
      case rel => exact ⟨k + 1, by omega, by go_num, by rw [HSU.out]; exact HO8, HB8⟩
      case measure => (simp [intOf]; try omega)
    · obtain rfl : k = rs.length := by omega
      rw [List.take_of_length_le (by rw [List.length_map]; exact Nat.le_refl _)] at HOW
      obtain ⟨ua, uc, rfl⟩ := id HOW.out.1
      clear j0 j1 j2 j3
      have HPA := hide (HP.out _ HBW.out)
      have HLT : Hid ((pairsJ (rs.map RuleR.v) fold line).length ≤ maxLen) := by
        have h1 := pairsJ_small (rs.map RuleR.v) fold line (by omega)
        have h2 : (rs.map RuleR.v).length ≤ 4 := by rw [List.length_map]; omega
        have h3 := Nat.mul_le_mul_right 502 h2
        show _ ≤ 2 ^ 63 - 1
        omega
      generalize pairsJ (rs.map RuleR.v) fold line = all at *
      have HSL := hide (HOW.out.sl encP_len)
      clear HP
      go_wp2_with fail
      refine HPA.out.mono ?_
      rintro e w7 ⟨v7, rfl, ho, b7⟩
      obtain ⟨va, vc, rfl⟩ := id ho.1
      have HSP := hide (SamePairs_refl ua va uc vc all w7 HLT.out (HSL.out.later b7 (Nat.le_refl _)) (ho.sl encP_len))
      have HB7 := hide (HBW.out.trans (b7.mono HBW.out.size))
      clear ho b7 HPA
      go_wp2_with fail
      refine HSP.out.mono ?_
      rintro e w8 ⟨rfl, b8⟩
      have HB8 := hide (HB7.out.trans (b8.mono HB7.out.size))
      clear b8 HSP
      go_wp2
      go_ret
      exact ⟨rfl, HB8.out⟩
end Go.Proofs.YtafogaopccajaaaDoor
