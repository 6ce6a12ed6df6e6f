/- The reference: a lexer of a line: word, peek. -/
import Derived.Test.YtgeedjlbajmdkaaGreatDoorJText
import Derived.Test.YtgeedjlbajmdkaaGreatDoorNum
import Derived.Test.YtgeedjlbajmdkaaGreatDoorBuild
set_option linter.unusedSimpArgs false
set_option linter.unusedVariables false
namespace Go.Proofs.YtgeedjlbajmdkaaGreatDoor
open Go.RowKit

/-- a lexer lies there: of this text, so far, is something wrong -/
def Lx (w : World) (b : Nat) (S : ByteArray) (p : Nat) (bad : Bool) : Prop := Bk w b [.string S, .int .i64 (p : Int), .bool bad]
theorem Lx.s {w : World} {b : Nat} {S : ByteArray} {p : Nat} {bad : Bool} (h : Lx w b S p bad) : w.cell? ⟨b, 0, none⟩ = some (.string S) := Bk.get h (j := 0) rfl
theorem Lx.p {w : World} {b : Nat} {S : ByteArray} {p : Nat} {bad : Bool} (h : Lx w b S p bad) : w.cell? ⟨b, 1, none⟩ = some (.int .i64 (p : Int)) := Bk.get h (j := 1) rfl
theorem Lx.bad {w : World} {b : Nat} {S : ByteArray} {p : Nat} {bad : Bool} (h : Lx w b S p bad) : w.cell? ⟨b, 2, none⟩ = some (.bool bad) := Bk.get h (j := 2) rfl
theorem Lx.later {w w' : World} {b : Nat} {S : ByteArray} {p : Nat} {bad : Bool} (h : Lx w b S p bad) (hb : Below w.heap.size w w') : Lx w' b S p bad := Bk.later h hb
theorem Lx.kept {w w' : World} {b : Nat} {S : ByteArray} {p : Nat} {bad : Bool} {T : Nat → Prop} (h : Lx w b S p bad) (k : KeptBut T w w') (hT : ¬ T b) : Lx w' b S p bad := Bk.kept h k hT
theorem Lx.setP {w : World} {b : Nat} {S : ByteArray} {p : Nat} {bad : Bool} (h : Lx w b S p bad) (q : Nat) : Lx (w.setCell ⟨b, 1, none⟩ (.int .i64 (q : Int))) b S q bad := Bk.set (k := 1) h _ rfl
theorem Lx.setBad {w : World} {b : Nat} {S : ByteArray} {p : Nat} {bad : Bool} (h : Lx w b S p bad) (b' : Bool) : Lx (w.setCell ⟨b, 2, none⟩ (.bool b')) b S p b' := Bk.set (k := 2) h _ rfl
/-- what it has not read yet -/
def restB (S : ByteArray) (p : Nat) : List UInt8 := (bytesOf S).drop p
theorem rest_cons {S : ByteArray} {p : Nat} (h : p < S.size) : restB S p = S[p] :: restB S (p + 1) := by
  have h2 : p < (bytesOf S).length := by unfold bytesOf; rw [tl_len]; exact h
  unfold restB
  rw [List.drop_eq_getElem_cons h2]
  congr 1
theorem rest_nil {S : ByteArray} {p : Nat} (h : S.size ≤ p) : restB S p = [] := by
  unfold restB bytesOf
  rw [List.drop_eq_nil_iff, tl_len]; exact h
theorem rest_len (S : ByteArray) (p : Nat) : (restB S p).length ≤ S.size := by
  unfold restB bytesOf
  rw [List.length_drop, tl_len]; omega
theorem wordR_cons {c : UInt8} (h : c ≠ 32) (l : List UInt8) : wordR (c :: l) = (c :: (wordR l).1, (wordR l).2) := by
  unfold wordR
  rcases first_of 32 l with h1 | ⟨A, B, rfl, hA⟩
  · rw [cutAt_no h1, cutAt_no (by simp only [List.mem_cons, not_or]; exact ⟨fun e => h e.symm, h1⟩)]
  · rw [cutAt_yes hA, show c :: (A ++ 32 :: B) = (c :: A) ++ 32 :: B from rfl, cutAt_yes (by simp only [List.mem_cons, not_or]; exact ⟨fun e => h e.symm, hA⟩)]
theorem wordR_32 (l : List UInt8) : wordR (32 :: l) = ([], l) := by
  unfold wordR
  rw [show (32 :: l : List UInt8) = [] ++ 32 :: l from rfl, cutAt_yes (by simp)]
theorem wordR_nil : wordR [] = ([], []) := rfl
set_option maxRecDepth 100000 in
set_option maxHeartbeats 1000000 in
theorem lword_any (b : Nat) (S : ByteArray) (p : Nat) (bad : Bool) (w : World) (h : Lx w b S p bad) (hS : S.size ≤ 100000) (hp : p ≤ 1000000) :
    Calls Tryz.prog 55 #[.pointer (some ⟨b, 0, none⟩)] w fun e w' => (e = .returned (.string (tx (wordR (restB S p)).1)) ∧ ∃ q, Lx w' b S q bad ∧ restB S q = (wordR (restB S p)).2 ∧ q ≤ max p S.size + 1) ∧ KeptBut (fun k => k = b) w w' := by
  have HL := hide h
  clear h
  go_enter Tryz.func55, Tryz.ntmps55
  go_wp2
  go_loopw [3] (fun v wr => ∃ (q : Nat) (acc : List UInt8), p ≤ q ∧ q ≤ max p S.size ∧ v = .string (tx acc) ∧ acc.length + p ≤ q ∧ Hid (wordR (restB S p) = (acc ++ (wordR (restB S q)).1, (wordR (restB S q)).2)) ∧ Hid (Lx wr b S q bad) ∧ Hid (KeptBut (fun k => k = b) w wr) ∧ wr.cell? ⟨b, 1, none⟩ = some (.int .i64 (q : Int))) (fun _ wr => S.size + 1 - (intOf ((wr.cell? ⟨b, 1, none⟩).getD (.int .i64 0))).toNat)
  case atStart => exact ⟨p, [], Nat.le_refl _, by omega, rfl, by simp, (by show _ = _; simp), HL, KeptBut.refl _ _, HL.out.p⟩
  case round =>
    obtain ⟨q, acc, h1, h2, rfl, h3, HW, HX, HK, c1⟩ := hrel
    have c0 := HX.out.s
    have hsz : (tx acc).size ≤ 1100000 := by rw [tx_size]; omega
    have z1 : wr.frozen? ⟨b, 1, none⟩ = false := Bk.fz HX.out 1
    by_cases hlt : q < S.size
    · have g1 : decide ((q : Int) < (S.size : Int)) = true := by simpa using hlt
      have f1 : (0 : Int) ≤ (q : Int) ∧ (q : Int) < (S.size : Int) ∧ (q : Int) + 1 ≤ (S.size : Int) := by omega
      obtain ⟨f1, f2, f3⟩ := f1
      have HR := hide (rest_cons hlt)
      have HE := hide (tx_snoc (wd := acc) hlt)
      by_cases hc : S[q] = 32
      · have t1 : ((S[q].toNat : Int) != 32) = false := by rw [hc]; decide
        have HRR : Hid (wordR (restB S p) = (acc, restB S (q + 1))) := by show _ = _; rw [HW.out, HR.out, hc, wordR_32]; simp
        clear hc HW HR HE
        go_wp2
        go_quiet (fail)
        go_wp2
        go_ret
        exact ⟨⟨by rw [HRR.out]; rfl, q + 1, Lx.setP (show Lx (wr.drewN _) b S q bad from HX.out) (q + 1), by rw [HRR.out], by omega⟩, (HK.out.drewN _).setCell (p := ⟨b, 1, none⟩) rfl _⟩
      · have t1 : ((S[q].toNat : Int) != 32) = true := by
          rw [bne_iff_ne]; intro e; exact hc (UInt8.toNat_inj.1 (by show S[q].toNat = 32; omega))
        have HW2 : Hid (wordR (restB S p) = ((acc ++ [S[q]]) ++ (wordR (restB S (q + 1))).1, (wordR (restB S (q + 1))).2)) := by
          show _ = _
          rw [HW.out, HR.out, wordR_cons hc]; simp
        clear hc HW HR
        go_wp2
        go_quiet (fail)
        go_wp2
        go_quiet (fail)
        go_wp2
        rw [HE.out]
        go_roundw
        case rel =>
          have hx := fun n => Lx.setP (show Lx (wr.drewN n) b S q bad from HX.out) (q + 1)
          exact ⟨q + 1, acc ++ [S[q]], by omega, by omega, rfl, by simp; omega, HW2, hx _, (HK.out.drewN _).setCell (p := ⟨b, 1, none⟩) rfl _, (hx _).p⟩
        case measure =>
          have hx : ∀ n, ((wr.drewN n).setCell ⟨b, 1, none⟩ (.int .i64 ((q : Int) + 1))).cell? ⟨b, 1, none⟩ = some (.int .i64 ((q : Int) + 1)) := fun n => (Lx.setP (show Lx (wr.drewN n) b S q bad from HX.out) (q + 1)).p
          simp only [hx, c1]
          simp [intOf]
          try omega
    · have g1 : decide ((q : Int) < (S.size : Int)) = false := by simpa using hlt
      have HRR : Hid (wordR (restB S p) = (acc, restB S (q + 1))) := by
        show _ = _
        rw [HW.out, rest_nil (by omega), wordR_nil, rest_nil (by omega)]; simp
      clear HW
      go_wp2
      go_quiet (fail)
      go_wp2
      go_ret
      exact ⟨⟨by rw [HRR.out]; rfl, q + 1, Lx.setP (show Lx (wr.drewN _) b S q bad from HX.out) (q + 1), by rw [HRR.out], by omega⟩, (HK.out.drewN _).setCell (p := ⟨b, 1, none⟩) rfl _⟩
set_option maxRecDepth 100000 in
set_option maxHeartbeats 1000000 in
theorem lpeek_any (b : Nat) (S v : ByteArray) (p : Nat) (bad : Bool) (w : World) (h : Lx w b S p bad) (hS : S.size ≤ 100000) (hp : p ≤ 1000000) (hv : v.size ≤ 1000) :
    Calls Tryz.prog 57 #[.pointer (some ⟨b, 0, none⟩), .string v] w fun e w' => e = .returned (.bool (nextR v.data.toList (restB S p))) ∧ Below w.heap.size w w' := by
  have c0 := h.s
  have c1 := h.p
  clear h
  by_cases hlt : p + v.size < S.size
  · have g1 : decide ((p : Int) + (v.size : Int) < (S.size : Int)) = true := by simp; omega
    have f1 : (0 : Int) ≤ (p : Int) ∧ (p : Int) ≤ (p : Int) + (v.size : Int) + 1 ∧ (p : Int) + (v.size : Int) + 1 ≤ (S.size : Int) := by omega
    obtain ⟨f1, f2, f3⟩ := f1
    have hE : ((S.extract p (p + v.size + 1)).toList == (v ++ ⟨#[32]⟩).toList) = nextR v.data.toList (restB S p) := by
      have e1 : (S.extract p (p + v.size + 1)).data.toList = (restB S p).take (v.data.toList.length + 1) := by
        rw [Lib.extract_data, tl_len]
        unfold restB bytesOf
        congr 1
        omega
      have e2 : (v ++ ⟨#[32]⟩ : ByteArray).data.toList = v.data.toList ++ [32] := by simp [ByteArray.data_append]
      rw [tl, tl, e1, e2]
      unfold nextR
      rw [Bool.eq_iff_iff, beq_iff_eq, List.isPrefixOf_iff_prefix, List.prefix_iff_eq_take]
      simp only [List.length_append, List.length_cons, List.length_nil]
      exact ⟨fun h => h.symm, fun h => h.symm⟩
    obtain ⟨r, hr⟩ : ∃ r, nextR v.data.toList (restB S p) = r := ⟨_, rfl⟩
    rw [hr] at hE ⊢
    clear hr
    go_enter Tryz.func57, Tryz.ntmps57
    go_wp2
    go_quiet (fail)
    go_wp2
    go_ret
    exact ⟨rfl, below_drewN (Below.refl _ _) _⟩
  · have g1 : decide ((p : Int) + (v.size : Int) < (S.size : Int)) = false := by simp; omega
    have hE : nextR v.data.toList (restB S p) = false := by
      unfold nextR
      rw [← Bool.not_eq_true, List.isPrefixOf_iff_prefix]
      intro h
      have h1 := h.length_le
      unfold restB bytesOf at h1
      simp only [List.length_append, List.length_cons, List.length_nil, List.length_drop, tl_len] at h1
      omega
    rw [hE]
    clear hE
    go_enter Tryz.func57, Tryz.ntmps57
    go_wp2
    go_quiet (fail)
    go_wp2
    go_ret
    exact ⟨rfl, below_drewN (Below.refl _ _) _⟩
end Go.Proofs.YtgeedjlbajmdkaaGreatDoor
