/- The reference: a lexer of a line: a text in '"'. -/
import Derived.Test.YtgeedjlbajmdkaaGreatDoorLex
import Derived.Test.YtgeedjlbajmdkaaGreatDoorJQuoted
set_option linter.unusedSimpArgs false
set_option linter.unusedVariables false
namespace Go.Proofs.YtgeedjlbajmdkaaGreatDoor
open Go.RowKit

set_option maxRecDepth 100000 in
set_option maxHeartbeats 2000000 in
theorem lquoted_any (b : Nat) (S : ByteArray) (p : Nat) (bad : Bool) (w : World) (h : Lx w b S p bad) (hS : S.size ≤ 100000) (hp : p ≤ 1000000) :
    Calls Tryz.prog 59 #[.pointer (some ⟨b, 0, none⟩)] w fun e w' => (∃ t : List UInt8, e = .returned (.string (tx t)) ∧ t.length ≤ S.size ∧ ∃ q, Lx w' b S q (bad || (quotedR (restB S p)).2.2) ∧ q ≤ max p S.size + 1 ∧ ((quotedR (restB S p)).2.2 = false → t = (quotedR (restB S p)).1 ∧ restB S q = (quotedR (restB S p)).2.1)) ∧ KeptBut (fun k => k = b) w w' := by
  have HL := hide h
  have c0 := h.s
  have c1 := h.p
  have c2 := h.bad
  have z1 : w.frozen? ⟨b, 1, none⟩ = false := Bk.fz h 1
  have z2 : w.frozen? ⟨b, 2, none⟩ = false := Bk.fz h 2
  clear h
  by_cases hb : p < S.size ∧ ∀ h : p < S.size, S[p] = 34
  case neg =>
    have HQ : Hid ((quotedR (restB S p)).2.2 = true) := by
      show _ = _
      rw [quotedR_no]
      by_cases hlt : p < S.size
      · rw [rest_cons hlt]
        have : S[p] ≠ 34 := fun e => hb ⟨hlt, fun _ => e⟩
        simp [List.isPrefixOf]; exact fun e => this e.symm
      · rw [rest_nil (by omega)]; rfl
    have HX := hide fun n => Lx.setBad (show Lx (w.drewN n) b S p bad from HL.out) true
    have HK := hide fun n => ((KeptBut.refl (fun k => k = b) w).drewN n).setCell (p := ⟨b, 2, none⟩) rfl (.bool true)
    by_cases hlt : p < S.size
    · have hc : S[p] ≠ 34 := fun e => hb ⟨hlt, fun _ => e⟩
      have g1 : decide ((S.size : Int) ≤ (p : Int)) = false := by simp; omega
      have f1 : (0 : Int) ≤ (p : Int) ∧ (p : Int) < (S.size : Int) := by omega
      obtain ⟨f1, f2⟩ := f1
      have t1 : ((S[p].toNat : Int) != 34) = true := by
        rw [bne_iff_ne]; intro e; exact hc (UInt8.toNat_inj.1 (by show S[p].toNat = 34; omega))
      clear hb hc
      go_enter Tryz.func59, Tryz.ntmps59
      go_wp2
      go_quiet (fail)
      go_wp2
      go_ret
      exact ⟨⟨[], rfl, by simp, p, by rw [HQ.out, Bool.or_true]; exact HX.out _, by omega, fun h => by rw [HQ.out] at h; cases h⟩, HK.out _⟩
    · have g1 : decide ((S.size : Int) ≤ (p : Int)) = true := by simp; omega
      clear hb
      go_enter Tryz.func59, Tryz.ntmps59
      go_wp2
      go_quiet (fail)
      go_wp2
      go_ret
      exact ⟨⟨[], rfl, by simp, p, by rw [HQ.out, Bool.or_true]; exact HX.out _, by omega, fun h => by rw [HQ.out] at h; cases h⟩, HK.out _⟩
  obtain ⟨hlt, hb⟩ := hb
  have hc := hb hlt
  have g1 : decide ((S.size : Int) ≤ (p : Int)) = false := by simp; omega
  have f1 : (0 : Int) ≤ (p : Int) ∧ (p : Int) < (S.size : Int) := by omega
  obtain ⟨f1, f2⟩ := f1
  have t1 : ((S[p].toNat : Int) != 34) = false := by rw [hc]; decide
  have HPB : Hid ([34].isPrefixOf (restB S p) = true) := by show _ = _; rw [rest_cons hlt, hc]; rfl
  have HDR : Hid ((restB S p).drop 1 = restB S (p + 1)) := by show _ = _; rw [rest_cons hlt]; rfl
  have HX1 := hide fun n => Lx.setP (show Lx (w.drewN n) b S p bad from HL.out) (p + 1)
  have HK1 := hide fun n => ((KeptBut.refl (fun k => k = b) w).drewN n).setCell (p := ⟨b, 1, none⟩) rfl (.int .i64 ((p + 1 : Nat) : Int))
  clear hb hc HL
  go_enter Tryz.func59, Tryz.ntmps59
  go_wp2
  go_quiet (fail)
  go_wp2
  go_loopw [3] (fun v wr => ∃ (q : Nat) (acc : List UInt8), p + 1 ≤ q ∧ q ≤ S.size ∧ v = .string (tx acc) ∧ acc.length + p + 1 ≤ q ∧ Hid (quoG (restB S (p + 1)) = (quoG (restB S q)).map fun r => (acc ++ r.1, r.2)) ∧ Hid (Lx wr b S q bad) ∧ Hid (KeptBut (fun k => k = b) w wr) ∧ wr.cell? ⟨b, 1, none⟩ = some (.int .i64 (q : Int))) (fun _ wr => S.size + 1 - (intOf ((wr.cell? ⟨b, 1, none⟩).getD (.int .i64 0))).toNat)
  case atStart => exact ⟨p + 1, [], Nat.le_refl _, by omega, rfl, by simp, (by show _ = _; cases quoG (restB S (p + 1)) <;> simp), HX1.out _, HK1.out _, (HX1.out _).p⟩
  case round =>
    clear c0 c1 c2 z1 z2 HX1 HK1 g1 t1
    obtain ⟨q, acc, h1, h2, rfl, h3, HW, HX, HK, c1⟩ := hrel
    have c0 := HX.out.s
    have c2 := HX.out.bad
    have hsz : (tx acc).size ≤ 1100000 := by rw [tx_size]; omega
    have z1 : wr.frozen? ⟨b, 1, none⟩ = false := Bk.fz HX.out 1
    have z2 : wr.frozen? ⟨b, 2, none⟩ = false := Bk.fz HX.out 2
    by_cases hq : q < S.size
    · have g1 : decide ((q : Int) < (S.size : Int)) = true := by simpa using hq
      have f1 : (0 : Int) ≤ (q : Int) ∧ (q : Int) < (S.size : Int) ∧ (q : Int) + 1 ≤ (S.size : Int) := by omega
      obtain ⟨f1, f2, f3⟩ := f1
      have HR := hide (rest_cons hq)
      have HE := hide (extract_one hq)
      obtain ⟨ch, hch⟩ : ∃ ch, S[q] = ch := ⟨_, rfl⟩
      rw [hch] at HR HE
      clear hch
      obtain ⟨C, hC⟩ : ∃ C, tx [ch] = C := ⟨_, rfl⟩
      rw [hC] at HE
      have HCC := hide hC
      have hcs : C.size = 1 := by rw [← hC, tx_size]; rfl
      have hb34 : (C.toList == [34]) = (ch == 34) := by rw [← hC, tl, tx_list, Bool.eq_iff_iff, beq_iff_eq, beq_iff_eq]; simp
      have hb92 : (C.toList == [92]) = (ch == 92) := by rw [← hC, tl, tx_list, Bool.eq_iff_iff, beq_iff_eq, beq_iff_eq]; simp
      have HAC : Hid (tx acc ++ C = tx (acc ++ [ch])) := by show _ = _; rw [HCC.out.symm]; exact tx_app acc [ch]
      clear hC
      by_cases h34 : ch = 34
      · rw [show (ch == 34) = true by simpa using h34] at hb34
        rw [show (ch == 92) = false by rw [h34]; decide] at hb92
        have HQO : Hid (quotedR (restB S p) = (acc, afterR [] (restB S (q + 1)), !nextR [] (restB S (q + 1)) && !(restB S (q + 1)).isEmpty)) := by
          show _ = _
          apply quotedR_some HPB.out
          rw [HDR.out, HW.out, HR.out, h34, quoG_34]
          simp
        clear HW HR h34 HPB HDR HAC
        by_cases hq1 : q + 1 < S.size
        · have HR2 := hide (rest_cons hq1)
          have g2 : decide ((q : Int) + 1 < (S.size : Int)) = true := by simp; omega
          have f4 : (0 : Int) ≤ (q : Int) + 1 ∧ (q : Int) + 1 < (S.size : Int) ∧ (q : Int) + 1 + 1 ≤ (S.size : Int) := by omega
          obtain ⟨f4, f5, f6⟩ := f4
          by_cases h32 : S[q + 1] = 32
          · have t5 : ((S[q + 1].toNat : Int) != 32) = false := by rw [h32]; decide
            have HQ2 : Hid (quotedR (restB S p) = (acc, restB S (q + 2), false)) := by show _ = _; rw [HQO.out, HR2.out, h32]; rfl
            have HX2 := hide fun n m => Lx.setP (show Lx (((wr.drewN n).setCell ⟨b, 1, none⟩ (.int .i64 ((q + 1 : Nat) : Int))).drewN m) b S (q + 1) bad from Lx.setP (show Lx (wr.drewN n) b S q bad from HX.out) (q + 1)) (q + 2)
            have HK2 := hide fun n m => ((((HK.out.drewN n).setCell (p := ⟨b, 1, none⟩) rfl (.int .i64 ((q + 1 : Nat) : Int))).drewN m).setCell (p := ⟨b, 1, none⟩) rfl (.int .i64 ((q + 2 : Nat) : Int)))
            clear HQO HR2 h32
            go_wp2
            go_quiet (fail)
            go_wp2
            go_quiet (fail)
            rw [HE.out]
            go_wp2
            go_quiet (fail)
            go_wp2
            go_ret
            exact ⟨⟨acc, rfl, by omega, q + 2, by rw [HQ2.out, Bool.or_false]; exact HX2.out _ _, by omega, fun _ => by rw [HQ2.out]; exact ⟨rfl, rfl⟩⟩, HK2.out _ _⟩
          · have t5 : ((S[q + 1].toNat : Int) != 32) = true := by
              rw [bne_iff_ne]; intro e; exact h32 (UInt8.toNat_inj.1 (by show S[q + 1].toNat = 32; omega))
            have HQ2 : Hid ((quotedR (restB S p)).2.2 = true) := by
              show _ = _; rw [HQO.out, HR2.out]
              have : (32 == S[q + 1]) = false := by simp; exact fun e => h32 e.symm
              simp [nextR, List.isPrefixOf, this]
            have HX2 := hide fun n m => Lx.setP (Lx.setBad (show Lx (((wr.drewN n).setCell ⟨b, 1, none⟩ (.int .i64 ((q + 1 : Nat) : Int))).drewN m) b S (q + 1) bad from Lx.setP (show Lx (wr.drewN n) b S q bad from HX.out) (q + 1)) true) (q + 2)
            have HK2 := hide fun n m => (((((HK.out.drewN n).setCell (p := ⟨b, 1, none⟩) rfl (.int .i64 ((q + 1 : Nat) : Int))).drewN m).setCell (p := ⟨b, 2, none⟩) rfl (.bool true)).setCell (p := ⟨b, 1, none⟩) rfl (.int .i64 ((q + 2 : Nat) : Int)))
            clear HQO HR2 h32
            go_wp2
            go_quiet (fail)
            go_wp2
            go_quiet (fail)
            rw [HE.out]
            go_wp2
            go_quiet (fail)
            go_wp2
            go_ret
            exact ⟨⟨acc, rfl, by omega, q + 2, by rw [HQ2.out, Bool.or_true]; exact HX2.out _ _, by omega, fun h => by rw [HQ2.out] at h; cases h⟩, HK2.out _ _⟩
        · have g2 : decide ((q : Int) + 1 < (S.size : Int)) = false := by simp; omega
          have HQ2 : Hid (quotedR (restB S p) = (acc, restB S (q + 2), false)) := by show _ = _; rw [HQO.out, rest_nil (p := q + 1) (by omega), rest_nil (p := q + 2) (by omega)]; rfl
          have HX2 := hide fun n m => Lx.setP (show Lx (((wr.drewN n).setCell ⟨b, 1, none⟩ (.int .i64 ((q + 1 : Nat) : Int))).drewN m) b S (q + 1) bad from Lx.setP (show Lx (wr.drewN n) b S q bad from HX.out) (q + 1)) (q + 2)
          have HK2 := hide fun n m => ((((HK.out.drewN n).setCell (p := ⟨b, 1, none⟩) rfl (.int .i64 ((q + 1 : Nat) : Int))).drewN m).setCell (p := ⟨b, 1, none⟩) rfl (.int .i64 ((q + 2 : Nat) : Int)))
          clear HQO
          go_wp2
          go_quiet (fail)
          go_wp2
          go_quiet (fail)
          rw [HE.out]
          go_wp2
          go_quiet (fail)
          go_wp2
          go_ret
          exact ⟨⟨acc, rfl, by omega, q + 2, by rw [HQ2.out, Bool.or_false]; exact HX2.out _ _, by omega, fun _ => by rw [HQ2.out]; exact ⟨rfl, rfl⟩⟩, HK2.out _ _⟩
      rw [show (ch == 34) = false by simpa using h34] at hb34
      by_cases h92 : ch = 92 ∧ q + 1 < S.size
      · obtain ⟨h92, hq1⟩ := h92
        rw [show (ch == 92) = true by simpa using h92] at hb92
        have HR2 := hide (rest_cons hq1)
        have HE2 := hide (extract_one hq1)
        have HAD := hide (tx_app acc [S[q + 1]])
        have g2 : decide ((q : Int) + 1 < (S.size : Int)) = true := by simp; omega
        have f4 : (0 : Int) ≤ (q : Int) + 1 ∧ (q : Int) + 1 < (S.size : Int) ∧ (q : Int) + 1 + 1 ≤ (S.size : Int) := by omega
        obtain ⟨f4, f5, f6⟩ := f4
        have HW2 : Hid (quoG (restB S (p + 1)) = (quoG (restB S (q + 2))).map fun r => ((acc ++ [S[q + 1]]) ++ r.1, r.2)) := by
          show _ = _
          rw [HW.out, HR.out, HR2.out, h92, quoG_92]
          cases quoG (restB S (q + 2)) <;> simp
        have HX2 := hide fun n m => Lx.setP (show Lx (((wr.drewN n).setCell ⟨b, 1, none⟩ (.int .i64 ((q + 1 : Nat) : Int))).drewN m) b S (q + 1) bad from Lx.setP (show Lx (wr.drewN n) b S q bad from HX.out) (q + 1)) (q + 2)
        have HK2 := hide fun n m => ((((HK.out.drewN n).setCell (p := ⟨b, 1, none⟩) rfl (.int .i64 ((q + 1 : Nat) : Int))).drewN m).setCell (p := ⟨b, 1, none⟩) rfl (.int .i64 ((q + 2 : Nat) : Int)))
        have hds : (tx [S[q + 1]]).size = 1 := by rw [tx_size]; rfl
        generalize tx [S[q + 1]] = D at *
        clear h92 h34 HR HR2 HW HAC
        go_wp2
        go_quiet (fail)
        go_wp2
        go_quiet (fail)
        rw [HE.out]
        go_wp2
        go_quiet (fail)
        go_wp2
        go_quiet (fail)
        rw [HE2.out]
        go_wp2
        rw [HAD.out]
        have HM2 : ∀ n m, ((((wr.drewN n).setCell ⟨b, 1, none⟩ (.int .i64 ((q : Int) + 1))).drewN m).setCell ⟨b, 1, none⟩ (.int .i64 ((q : Int) + 1 + 1))).cell? ⟨b, 1, none⟩ = some (.int .i64 ((q : Int) + 1 + 1)) := fun n m => (HX2.out n m).p
        go_roundw
        case rel => exact ⟨q + 2, _, by omega, by omega, rfl, by simp; omega, HW2, HX2.out _ _, HK2.out _ _, (HX2.out _ _).p⟩
        case measure =>
          simp only [HM2, c1]
          simp [intOf]
          try omega
      · have HQO : Hid (quoG (ch :: restB S (q + 1)) = (quoG (restB S (q + 1))).map fun r => (ch :: r.1, r.2)) := by
          refine quoG_other h34 _ ?_
          by_cases h : ch = 92
          · right; exact rest_nil (by have : ¬ q + 1 < S.size := fun h2 => h92 ⟨h, h2⟩; omega)
          · exact .inl h
        have HW2 : Hid (quoG (restB S (p + 1)) = (quoG (restB S (q + 1))).map fun r => ((acc ++ [ch]) ++ r.1, r.2)) := by
          show _ = _
          rw [HW.out, HR.out, HQO.out]
          cases quoG (restB S (q + 1)) <;> simp
        have HX2 := hide fun n => Lx.setP (show Lx (wr.drewN n) b S q bad from HX.out) (q + 1)
        have HK2 := hide fun n => ((HK.out.drewN n).setCell (p := ⟨b, 1, none⟩) rfl (.int .i64 ((q + 1 : Nat) : Int)))
        have HM2 : ∀ n, ((wr.drewN n).setCell ⟨b, 1, none⟩ (.int .i64 ((q : Int) + 1))).cell? ⟨b, 1, none⟩ = some (.int .i64 ((q : Int) + 1)) := fun n => (HX2.out n).p
        clear HR HW HQO
        by_cases h9 : ch = 92
        · rw [show (ch == 92) = true by simpa using h9] at hb92
          have g2 : decide ((q : Int) + 1 < (S.size : Int)) = false := by
            have : ¬ q + 1 < S.size := fun h2 => h92 ⟨h9, h2⟩
            simp; omega
          clear h9 h92 h34
          go_wp2
          go_quiet (fail)
          go_wp2
          go_quiet (fail)
          rw [HE.out]
          go_wp2
          go_quiet (fail)
          go_wp2
          rw [HAC.out]
          go_roundw
          case rel => exact ⟨q + 1, _, by omega, by omega, rfl, by simp; omega, HW2, HX2.out _, HK2.out _, (HX2.out _).p⟩
          case measure =>
            simp only [HM2, c1]
            simp [intOf]
            try omega
        · rw [show (ch == 92) = false by simpa using h9] at hb92
          clear h9 h92 h34
          go_wp2
          go_quiet (fail)
          go_wp2
          go_quiet (fail)
          rw [HE.out]
          go_wp2
          go_quiet (fail)
          go_wp2
          rw [HAC.out]
          go_roundw
          case rel => exact ⟨q + 1, _, by omega, by omega, rfl, by simp; omega, HW2, HX2.out _, HK2.out _, (HX2.out _).p⟩
          case measure =>
            simp only [HM2, c1]
            simp [intOf]
            try omega
    · have g1 : decide ((q : Int) < (S.size : Int)) = false := by simpa using hq
      have HQ2 : Hid ((quotedR (restB S p)).2.2 = true) := by
        show _ = _
        rw [quotedR_none HPB.out]
        rw [HDR.out, HW.out, rest_nil (by omega)]
        rfl
      have HX2 := hide fun n => Lx.setBad (show Lx (wr.drewN n) b S q bad from HX.out) true
      have HK2 := hide fun n => ((HK.out.drewN n).setCell (p := ⟨b, 2, none⟩) rfl (.bool true))
      clear HW HPB HDR
      go_wp2
      go_quiet (fail)
      go_wp2
      go_ret
      exact ⟨⟨acc, rfl, by omega, q, by rw [HQ2.out, Bool.or_true]; exact HX2.out _, by omega, fun h => by rw [HQ2.out] at h; cases h⟩, HK2.out _⟩
end Go.Proofs.YtgeedjlbajmdkaaGreatDoor
