/- A reader of a line: a word, the next one, a number. -/
import Derived.Test.YtgeedjlbajmdkaaGreatDoorJText
import Derived.Test.YtgeedjlbajmdkaaGreatDoorNamesM
set_option linter.unusedSimpArgs false
set_option linter.unusedVariables false
namespace Go.Proofs.YtgeedjlbajmdkaaGreatDoor
open Go.RowKit

/-- a reader lies there: what it has not read yet, is something wrong -/
def Rd (w : World) (rb : Nat) (s : List UInt8) (bad : Bool) : Prop := Bk w rb [.string (tx s), .bool bad]
theorem Rd.s {w : World} {rb : Nat} {s : List UInt8} {bad : Bool} (h : Rd w rb s bad) : w.cell? ⟨rb, 0, none⟩ = some (.string (tx s)) := Bk.get h (j := 0) rfl
theorem Rd.bad {w : World} {rb : Nat} {s : List UInt8} {bad : Bool} (h : Rd w rb s bad) : w.cell? ⟨rb, 1, none⟩ = some (.bool bad) := Bk.get h (j := 1) rfl
theorem Rd.later {w w' : World} {rb : Nat} {s : List UInt8} {bad : Bool} (h : Rd w rb s bad) (hb : Below w.heap.size w w') : Rd w' rb s bad := Bk.later h hb
theorem Rd.setS {w : World} {rb : Nat} {s : List UInt8} {bad : Bool} (h : Rd w rb s bad) (s' : List UInt8) : Rd (w.setCell ⟨rb, 0, none⟩ (.string (tx s'))) rb s' bad := Bk.set (k := 0) h _ rfl
theorem Rd.setBad {w : World} {rb : Nat} {s : List UInt8} {bad : Bool} (h : Rd w rb s bad) (b' : Bool) : Rd (w.setCell ⟨rb, 1, none⟩ (.bool b')) rb s b' := Bk.set (k := 1) h _ rfl
theorem kept_set {w w1 : World} {rb : Nat} (h : Below w.heap.size w w1) (k : Nat) (v : Value) : KeptBut (fun q => q = rb) w (w1.setCell ⟨rb, k, none⟩ v) := KeptBut.setCell (S := fun q => q = rb) (KeptBut.of_below h (Nat.le_refl _)) (p := ⟨rb, k, none⟩) rfl v
theorem wordR_len (s : List UInt8) : (wordR s).1.length ≤ s.length ∧ (wordR s).2.length ≤ s.length := by
  unfold wordR
  rcases first_of 32 s with h | ⟨A, B, rfl, hA⟩
  · rw [cutAt_no h]; simp
  · rw [cutAt_yes hA]; simp; omega
set_option maxRecDepth 100000 in
theorem word_any (rb : Nat) (s : List UInt8) (bad : Bool) (w : World) (hg : GM w) (h : Rd w rb s bad) (hs : s.length ≤ 100000) :
    Calls Tryz.prog 93 #[.pointer (some ⟨rb, 0, none⟩)] w fun e w' => (e = .returned (.string (tx (wordR s).1)) ∧ Rd w' rb (wordR s).2 bad) ∧ KeptBut (fun q => q = rb) w w' := by
  have HC := hide (Cut_any (tx s) 32 w hg (by rw [tx_size]; omega))
  rw [tx_list] at HC
  have HR := hide h
  have c0 := h.s
  have HW : Hid (wordR s = ((cutAt 32 s).1, (cutAt 32 s).2.1)) := rfl
  clear h hg
  generalize (cutAt 32 s).1 = A at *
  generalize (cutAt 32 s).2.1 = B at *
  go_enter Tryz.func93, Tryz.ntmps93
  go_wp2_with fail
  refine HC.out.mono ?_
  rintro e w1 ⟨rfl, b1⟩
  have HR1 := hide (HR.out.later b1)
  have d0 := HR1.out.s
  have z0 := Bk.fz HR1.out 0
  have HK := hide (kept_set (rb := rb) b1 0 (.string (tx B)))
  clear b1 HC HR
  go_wp2
  go_ret
  rw [HW.out]
  exact ⟨⟨rfl, HR1.out.setS B⟩, HK.out⟩
set_option maxRecDepth 100000 in
theorem next_any (rb : Nat) (s : List UInt8) (bad : Bool) (v : ByteArray) (w : World) (h : Rd w rb s bad) (hv : v.size ≤ 1000) :
    Calls Tryz.prog 94 #[.pointer (some ⟨rb, 0, none⟩), .string v] w fun e w' => (e = .returned (.bool (nextR v.data.toList s)) ∧ Rd w' rb (afterR v.data.toList s) bad) ∧ KeptBut (fun q => q = rb) w w' := by
  have HC := hide (Tryz.strings_CutPrefix (tx s) (v ++ ⟨#[32]⟩) w)
  have e1 : (v ++ ⟨#[32]⟩ : ByteArray).data.toList = v.data.toList ++ [32] := by simp [ByteArray.data_append]
  rw [tx_list, e1, show Lib.hasPrefix s (v.data.toList ++ [32]) = nextR v.data.toList s from rfl, show (⟨(Lib.trimPrefix s (v.data.toList ++ [32])).toArray⟩ : ByteArray) = tx (Lib.trimPrefix s (v.data.toList ++ [32])) from rfl] at HC
  have HA : Hid (nextR v.data.toList s = true → Lib.trimPrefix s (v.data.toList ++ [32]) = afterR v.data.toList s) := fun hn => by
    unfold Lib.trimPrefix afterR
    rw [if_pos hn, if_pos (show Lib.hasPrefix s (v.data.toList ++ [32]) = true from hn)]
    simp
  have HB : Hid (nextR v.data.toList s = false → s = afterR v.data.toList s) := fun hn => by
    unfold afterR
    rw [if_neg (by rw [hn]; decide)]
  have HR := hide h
  have c0 := h.s
  have z0 := Bk.fz h 0
  have n1 : ¬ 9223372036854775807 < v.size + 1 := by omega
  clear h e1
  generalize Lib.trimPrefix s (v.data.toList ++ [32]) = T at *
  obtain ⟨nb, hnb⟩ : ∃ nb, nextR v.data.toList s = nb := ⟨_, rfl⟩
  rw [hnb] at HC HA HB ⊢
  clear hnb
  cases nb with
  | true =>
    have HT := hide (HA.out rfl)
    have HK := hide (kept_set (rb := rb) (Below.refl w.heap.size w) 0 (.string (tx T)))
    clear HA HB
    go_enter Tryz.func94, Tryz.ntmps94
    go_wp2_with fail
    refine HC.out.mono ?_
    rintro e w1 ⟨rfl, rfl⟩
    go_wp2
    go_ret
    rw [← HT.out]
    exact ⟨⟨rfl, HR.out.setS T⟩, HK.out⟩
  | false =>
    have HT := hide (HB.out rfl)
    clear HA HB
    go_enter Tryz.func94, Tryz.ntmps94
    go_wp2_with fail
    refine HC.out.mono ?_
    rintro e w1 ⟨rfl, rfl⟩
    go_wp2
    go_ret
    rw [← HT.out]
    exact ⟨⟨rfl, HR.out⟩, KeptBut.refl _ _⟩
set_option maxRecDepth 100000 in
set_option maxHeartbeats 1000000 in
theorem rnumber_any (rb : Nat) (s : List UInt8) (bad : Bool) (w : World) (hg : GW w) (hgr : ∀ w', KeptBut (fun q => q = rb) w w' → GW w') (h : Rd w rb s bad) (hs : s.length ≤ 100000) :
    Calls Tryz.prog 52 #[.pointer (some ⟨rb, 0, none⟩)] w fun e w' => (e = .returned (.int .i64 (atoiV (wordR s).1)) ∧ Rd w' rb (wordR s).2 (bad || !numOk (wordR s).1)) ∧ KeptBut (fun q => q = rb) w w' := by
  have HW := hide (word_any rb s bad w hg.gm h hs)
  have HWL := hide (wordR_len s)
  have HGR := hide hgr
  have HNO : Hid (numOk (wordR s).1 = (atoiOk (wordR s).1 && decide (Lib.itoa (atoiV (wordR s).1) = (wordR s).1))) := numOk_eq _
  clear hg hgr h
  generalize (wordR s).1 = A at *
  generalize (wordR s).2 = B at *
  go_enter Tryz.func52, Tryz.ntmps52
  go_wp2_with fail
  refine HW.out.mono ?_
  rintro e w1 ⟨⟨rfl, hr1⟩, k1⟩
  have HR1 := hide hr1
  have HK1 := hide k1
  have hA := hide (Atoi_any (tx A) w1 (HGR.out _ k1) (by rw [tx_size]; have := HWL.out.1; omega))
  rw [tx_list] at hA
  clear hr1 k1 HW
  go_wp2_with fail
  refine hA.out.mono ?_
  rintro e w2 ⟨⟨ev, rfl, hev⟩, b2⟩
  have HR2 := hide (HR1.out.later b2)
  have HK2 := hide (HK1.out.trans (KeptBut.of_below b2 (Nat.le_refl _)))
  have d1 := HR2.out.bad
  have z1 := Bk.fz HR2.out 1
  have hbd := atoiV_bd (l := A)
  clear b2 hA
  cases bad with
  | true =>
    clear hev
    have HK := hide (HK2.out.setCell (p := ⟨rb, 1, none⟩) rfl (.bool true))
    go_wp2
    go_ret
    exact ⟨⟨rfl, HR2.out.setBad true⟩, HK.out⟩
  | false =>
    rcases hev with ⟨ho, rfl⟩ | ⟨ho, t, v, rfl⟩
    · have HO := hide ho
      have HI := hide (Itoa_any (atoiV A) w2 (HGR.out _ HK2.out) hbd.1 hbd.2)
      clear ho
      generalize hvv : atoiV A = v at *
      have HVV := hide hvv
      clear hvv
      go_wp2_with fail
      refine HI.out.mono ?_
      rintro e w3 ⟨rfl, b3⟩
      have HR3 := hide (HR2.out.later b3)
      have HK3 := hide (HK2.out.trans (KeptBut.of_below b3 (Nat.le_refl _)))
      clear d1 z1
      have d1 := HR3.out.bad
      have z1 := Bk.fz HR3.out 1
      have hbe : (!((tx (Lib.itoa v)).toList == (tx A).toList)) = !decide (Lib.itoa v = A) := by
        rw [tl, tl, tx_list, tx_list]
        by_cases he : Lib.itoa v = A
        · rw [he]; simp
        · rw [decide_eq_false he, show (Lib.itoa v == A) = false by rw [beq_eq_false_iff_ne]; exact he]
      obtain ⟨be, hbe2⟩ : ∃ be, decide (Lib.itoa v = A) = be := ⟨_, rfl⟩
      rw [hbe2] at hbe
      have HBE := hide hbe2
      have HNV : Hid (numOk A = be) := by show _ = _; rw [HNO.out, HO.out, HBE.out, Bool.true_and]
      have HK := hide (HK3.out.setCell (p := ⟨rb, 1, none⟩) rfl (.bool !be))
      clear hbe2 b3 HI
      cases be with
      | true =>
        go_wp2
        go_ret
        rw [HNV.out, HVV.out]
        exact ⟨⟨rfl, HR3.out.setBad false⟩, HK.out⟩
      | false =>
        go_wp2
        go_ret
        rw [HNV.out, HVV.out]
        exact ⟨⟨rfl, HR3.out.setBad true⟩, HK.out⟩
    · have HNV : Hid (numOk A = false) := by show _ = _; rw [HNO.out, ho, Bool.false_and]
      have HK := hide (HK2.out.setCell (p := ⟨rb, 1, none⟩) rfl (.bool true))
      clear ho
      go_wp2
      go_ret
      rw [HNV.out]
      exact ⟨⟨rfl, HR2.out.setBad true⟩, HK.out⟩
end Go.Proofs.YtgeedjlbajmdkaaGreatDoor
