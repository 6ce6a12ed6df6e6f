/- The reference: a text as a job: the walk. -/
import Derived.Test.YtgeedjlbajmdkaaGreatDoorLexE2
import Derived.Test.YtgeedjlbajmdkaaGreatDoorJobOfL
import Derived.Test.YtgeedjlbajmdkaaGreatDoorRefJT
import Derived.Test.YtgeedjlbajmdkaaGreatDoorRefJF
import Derived.Test.YtgeedjlbajmdkaaGreatDoorJParse
set_option linter.unusedSimpArgs false
set_option linter.unusedVariables false
namespace Go.Proofs.YtgeedjlbajmdkaaGreatDoor
open Go.RowKit

/-- what ref.JobOf hands back -/
def OPost (s : List UInt8) (w : World) (e : Ending) (w' : World) : Prop :=
  ((∃ ro rc rs fold slices early, (jobF (rs.map RuleR.v) fold slices = 0 ∧ s = jobT (rs.map RuleR.v) fold slices early ∧ s.length ≤ 800) ∧ e = .returned (.tuple #[.agg #[.slice ro rs.length rc, .int .i64 fold, .bool early, .int .i64 slices], .int .i64 0]) ∧ JobS (fun q => w.heap.size ≤ q) w' ro rs) ∨
    ((∀ rv fold slices early, jobF rv fold slices = 0 → s = jobT rv fold slices early → 800 < s.length) ∧ e = .returned (.tuple #[zeroJob, .int .i64 (if 800 < s.length then 2 else 4)]))) ∧ Below w.heap.size w w'
/-- no job that may be has this text -/
def NoJob (s : List UInt8) : Prop := ∀ rv fold slices early, jobF rv fold slices = 0 → s = jobT rv fold slices early → 800 < s.length
theorem jobT_last (rs : List RuleV) (fold slices : Int) (early : Bool) : (jobT rs fold slices early).getLast? = some 10 := by
  rw [jobT_end]
  obtain ⟨ls, l, e⟩ : ∃ ls l, headT fold slices early :: rs.map ruleT = ls ++ [l] := ⟨_, _, (List.dropLast_concat_getLast (by simp)).symm⟩
  rw [e]
  have e2 : endL (ls ++ [l]) = (endL ls ++ l) ++ [10] := by simp [endL]
  rw [e2, List.getLast?_concat]
/-- what has been found, of the first ones -/
def foldTo (k : Nat) (w : List UInt8) : Int := if foldN w < k then foldN w else 0
theorem foldN_range (w : List UInt8) : 0 ≤ foldN w ∧ foldN w ≤ 4 := by unfold foldN; repeat' split; all_goals omega
theorem foldN_of {w : List UInt8} (h : foldN w ≠ 0) : foldK (foldN w) = w := by
  unfold foldN at h ⊢
  split
  · rename_i h1; exact h1.symm
  · split
    · rename_i h1; exact h1.symm
    · split
      · rename_i h1; exact h1.symm
      · split
        · rename_i h1; exact h1.symm
        · rename_i h1 h2 h3 h4
          rw [if_neg h1, if_neg h2, if_neg h3, if_neg h4] at h
          exact absurd rfl h
theorem foldTo_start (w : List UInt8) : foldTo 1 w = 0 := by unfold foldTo; have := foldN_range w; split <;> omega
theorem foldTo_done (w : List UInt8) : foldTo 5 w = foldN w := by unfold foldTo; have := foldN_range w; rw [if_pos (by omega)]
theorem foldTo_hit {k : Nat} {w : List UInt8} (hk : 1 ≤ k ∧ k ≤ 4) (h : foldK (k : Int) = w) : foldTo (k + 1) w = k := by
  have : foldN w = k := by rw [← h]; exact foldN_fold (by omega)
  unfold foldTo
  rw [this, if_pos (by omega)]
theorem foldTo_miss {k : Nat} {w : List UInt8} (hk : 1 ≤ k ∧ k ≤ 4) (h : foldK (k : Int) ≠ w) : foldTo (k + 1) w = foldTo k w := by
  have h2 : foldN w ≠ (k : Int) := fun e => h (by rw [← e]; exact foldN_of (by rw [e]; omega))
  unfold foldTo
  by_cases h3 : foldN w < (k : Int)
  · rw [if_pos h3, if_pos (by omega)]
  · rw [if_neg h3, if_neg (by omega)]
theorem folds_at {w : World} {b : Nat} (h : Bk w b [.string ⟨#[]⟩, .string ⟨#[115, 117, 109]⟩, .string ⟨#[108, 101, 97, 115, 116]⟩, .string ⟨#[103, 114, 101, 97, 116, 101, 115, 116]⟩, .string ⟨#[99, 111, 117, 110, 116]⟩]) {k : Nat} (hk : 1 ≤ k ∧ k ≤ 4) : w.cell? ⟨b, k, none⟩ = some (.string (tx (foldK (k : Int)))) := by
  have h1 : k = 1 ∨ k = 2 ∨ k = 3 ∨ k = 4 := by omega
  rcases h1 with rfl | rfl | rfl | rfl
  · exact h.get (j := 1) rfl
  · exact h.get (j := 2) rfl
  · exact h.get (j := 3) rfl
  · exact h.get (j := 4) rfl
theorem last_at {s : List UInt8} {S : ByteArray} (hS : tx s = S) (h : s.length - 1 < S.size) : ((S[s.length - 1].toNat : Int) != 10) = !decide (s.getLast? = some 10) := by
  subst hS
  have h2 : s.length - 1 < s.length := by rw [tx_size] at h; exact h
  have e2 : s.getLast? = some s[s.length - 1] := by rw [List.getLast?_eq_getElem?, List.getElem?_eq_getElem h2]
  rw [e2]
  show (((s[s.length - 1].toNat : Nat) : Int) != 10) = _
  by_cases h10 : s[s.length - 1] = 10
  · rw [h10]; rfl
  · have h1 : ((s[s.length - 1].toNat : Int) != 10) = true := by
      rw [bne_iff_ne]; intro e; exact h10 (UInt8.toNat_inj.1 (by show s[s.length - 1].toNat = 10; omega))
    rw [h1]; simp [h10]
set_option maxRecDepth 100000 in
set_option maxHeartbeats 8000000 in
theorem RefJobOf_any (s : List UInt8) (w : World) (hs : s.length ≤ 100000) :
    Calls Tryz.prog 14 #[.string (tx s)] w (OPost s w) := by
  obtain ⟨W1, hW1⟩ : ∃ W, W = w.alloc (.cells #[.slice none 0 0, .int .i64 0, .bool false, .int .i64 0] 24) := ⟨_, rfl⟩
  have hb1 : Below w.heap.size w W1 := by rw [hW1]; exact (Below.refl _ _).alloc (Nat.le_refl _) _
  have hz1 : Bk W1 w.heap.size [.slice none 0 0, .int .i64 0, .bool false, .int .i64 0] := by rw [hW1]; exact Bk.new rfl
  have HW1 := hide hW1
  have HB := hide hb1
  have HZ := hide hz1
  obtain ⟨S, hS⟩ : ∃ S, tx s = S := ⟨_, rfl⟩
  have hsz : S.size = s.length := by rw [← hS]; exact tx_size s
  have HSS := hide hS
  rw [hS]
  clear hb1 hz1 hW1 hS
  by_cases h8 : 800 < S.size
  · have g1 : decide ((800 : Int) < (S.size : Int)) = true := by simp; omega
    have c0 := HZ.out.get (j := 0) rfl
    have c1 := HZ.out.get (j := 1) rfl
    have c2 := HZ.out.get (j := 2) rfl
    have c3 := HZ.out.get (j := 3) rfl
    have z0 := HZ.out.fz 0
    have z1 := HZ.out.fz 1
    have z2 := HZ.out.fz 2
    have z3 := HZ.out.fz 3
    have hk9 := HZ.out.set4 (.slice none 0 0) (.int .i64 0) (.bool false) (.int .i64 0)
    have f0 := hk9.get (j := 0) rfl
    have f1 := hk9.get (j := 1) rfl
    have f2 := hk9.get (j := 2) rfl
    have f3 := hk9.get (j := 3) rfl
    have HBF : Hid (Below w.heap.size w ((((W1.setCell ⟨w.heap.size, 0, none⟩ (.slice none 0 0)).setCell ⟨w.heap.size, 1, none⟩ (.int .i64 0)).setCell ⟨w.heap.size, 2, none⟩ (.bool false)).setCell ⟨w.heap.size, 3, none⟩ (.int .i64 0))) :=
      (((HB.out.setCell (p := ⟨w.heap.size, 0, none⟩) (Nat.le_refl _) _).setCell (p := ⟨w.heap.size, 1, none⟩) (Nat.le_refl _) _).setCell (p := ⟨w.heap.size, 2, none⟩) (Nat.le_refl _) _).setCell (p := ⟨w.heap.size, 3, none⟩) (Nat.le_refl _) _
    have HL : Hid (800 < s.length) := by show _ < _; omega
    clear hk9 hsz hs h8
    go_enter Tryz.func14, Tryz.ntmps14
    go_upto_region 1 with (fail)
    rw [← HW1.out]
    clear HW1
    go_wp2
    refine bodyPost_ret (v := .tuple #[.agg #[.slice none 0 0, .int .i64 0, .bool false, .int .i64 0], .int .i64 2]) (by simp [results, Tryz.results14, go_sem, f0, f1, f2, f3]) rfl ?_
    exact ⟨.inr ⟨fun _ _ _ _ _ _ => HL.out, by rw [if_pos HL.out]; rfl⟩, HBF.out⟩
  · have g1 : decide ((800 : Int) < (S.size : Int)) = false := by simp; omega
    have HS8 : Hid (¬ 800 < s.length) := by show ¬ _; omega
    by_cases h0 : S.size < 1
    · have g2 : decide ((S.size : Int) < 1) = true := by simp; omega
      have HNO : Hid (NoJob s) := fun rv fold slices early _ e => by
        exfalso
        have h1 := jobT_last rv fold slices early
        rw [← e] at h1
        have : s = [] := List.length_eq_zero_iff.1 (by omega)
        rw [this] at h1; cases h1
      have HRZ := HZ
      have HBZ := HB
      clear hsz hs h8 h0
      go_enter Tryz.func14, Tryz.ntmps14
      go_upto_region 1 with (fail)
      rw [← HW1.out]
      clear HW1
      go_upto_region 4 with (fail)
      clear g1 g2
      obtain ⟨wz, rfl⟩ : ∃ wz, wz = W1 := ⟨_, rfl⟩
      have r0 := HRZ.out.get (j := 0) rfl
      have r1 := HRZ.out.get (j := 1) rfl
      have r2 := HRZ.out.get (j := 2) rfl
      have r3 := HRZ.out.get (j := 3) rfl
      have y0 := HRZ.out.fz 0
      have y1 := HRZ.out.fz 1
      have y2 := HRZ.out.fz 2
      have y3 := HRZ.out.fz 3
      have hk9 := HRZ.out.set4 (.slice none 0 0) (.int .i64 0) (.bool false) (.int .i64 0)
      have f0 := hk9.get (j := 0) rfl
      have f1 := hk9.get (j := 1) rfl
      have f2 := hk9.get (j := 2) rfl
      have f3 := hk9.get (j := 3) rfl
      have HBF : Hid (Below w.heap.size w ((((wz.setCell ⟨w.heap.size, 0, none⟩ (.slice none 0 0)).setCell ⟨w.heap.size, 1, none⟩ (.int .i64 0)).setCell ⟨w.heap.size, 2, none⟩ (.bool false)).setCell ⟨w.heap.size, 3, none⟩ (.int .i64 0))) :=
        (((HBZ.out.setCell (p := ⟨w.heap.size, 0, none⟩) (Nat.le_refl _) _).setCell (p := ⟨w.heap.size, 1, none⟩) (Nat.le_refl _) _).setCell (p := ⟨w.heap.size, 2, none⟩) (Nat.le_refl _) _).setCell (p := ⟨w.heap.size, 3, none⟩) (Nat.le_refl _) _
      clear hk9 HRZ HBZ
      go_wp2
      refine bodyPost_ret (v := .tuple #[.agg #[.slice none 0 0, .int .i64 0, .bool false, .int .i64 0], .int .i64 4]) (by simp [results, Tryz.results14, go_sem, f0, f1, f2, f3, y0, y1, y2, y3]) rfl ?_
      exact ⟨.inr ⟨HNO.out, by rw [if_neg HS8.out]; rfl⟩, HBF.out⟩
    have g2 : decide ((S.size : Int) < 1) = false := by simp; omega
    have f1 : (0 : Int) ≤ (S.size : Int) - 1 ∧ (S.size : Int) - 1 < (S.size : Int) := by omega
    obtain ⟨f1, f2⟩ := f1
    go_enter Tryz.func14, Tryz.ntmps14
    go_upto_region 3 with (fail)
    rw [← HW1.out]
    clear HW1
    go_cut [35] from 28 to 35 (fun v wd => v = .bool (!decide (s.getLast? = some 10)) ∧ wd = W1)
    case first =>
      go_wp2
      go_meet
      exact ⟨by rw [last_at HSS.out], rfl⟩
    case rest =>
    obtain ⟨rfl, hww⟩ := hcut
    subst hww
    obtain ⟨lb, hlb⟩ : ∃ lb, (!decide (s.getLast? = some 10)) = lb := ⟨_, rfl⟩
    rw [hlb]
    clear g1 g2 f1 f2 h0
    go_upto_if 35 with (fail)
    have HLB := hide hlb
    clear hlb
    cases lb with
    | true =>
      have HNO : Hid (NoJob s) := fun rv fold slices early _ e => by
        exfalso
        have h1 := jobT_last rv fold slices early
        rw [← e] at h1
        have h2 := HLB.out
        rw [h1] at h2
        cases h2
      have HRZ := HZ
      have HBZ := HB
      clear hsz hs h8 HLB
      go_upto_region 4 with (fail)
      obtain ⟨wz, rfl⟩ : ∃ wz, wz = wc := ⟨_, rfl⟩
      have r0 := HRZ.out.get (j := 0) rfl
      have r1 := HRZ.out.get (j := 1) rfl
      have r2 := HRZ.out.get (j := 2) rfl
      have r3 := HRZ.out.get (j := 3) rfl
      have y0 := HRZ.out.fz 0
      have y1 := HRZ.out.fz 1
      have y2 := HRZ.out.fz 2
      have y3 := HRZ.out.fz 3
      have hk9 := HRZ.out.set4 (.slice none 0 0) (.int .i64 0) (.bool false) (.int .i64 0)
      have f0 := hk9.get (j := 0) rfl
      have f1 := hk9.get (j := 1) rfl
      have f2 := hk9.get (j := 2) rfl
      have f3 := hk9.get (j := 3) rfl
      have HBF : Hid (Below w.heap.size w ((((wz.setCell ⟨w.heap.size, 0, none⟩ (.slice none 0 0)).setCell ⟨w.heap.size, 1, none⟩ (.int .i64 0)).setCell ⟨w.heap.size, 2, none⟩ (.bool false)).setCell ⟨w.heap.size, 3, none⟩ (.int .i64 0))) :=
        (((HBZ.out.setCell (p := ⟨w.heap.size, 0, none⟩) (Nat.le_refl _) _).setCell (p := ⟨w.heap.size, 1, none⟩) (Nat.le_refl _) _).setCell (p := ⟨w.heap.size, 2, none⟩) (Nat.le_refl _) _).setCell (p := ⟨w.heap.size, 3, none⟩) (Nat.le_refl _) _
      clear hk9 HRZ HBZ
      go_wp2
      refine bodyPost_ret (v := .tuple #[.agg #[.slice none 0 0, .int .i64 0, .bool false, .int .i64 0], .int .i64 4]) (by simp [results, Tryz.results14, go_sem, f0, f1, f2, f3, y0, y1, y2, y3]) rfl ?_
      exact ⟨.inr ⟨HNO.out, by rw [if_neg HS8.out]; rfl⟩, HBF.out⟩
    | false =>
    clear HLB
    have hup := fun w' => UpTo_any (tx s) 10 w' (by rw [tx_size]; omega)
    simp only [tx_list] at hup
    rw [HSS.out] at hup
    obtain ⟨H, hH⟩ : ∃ H, (cutAt 10 s).1 = H := ⟨_, rfl⟩
    obtain ⟨T, hT⟩ : ∃ T, (cutAt 10 s).2.1 = T := ⟨_, rfl⟩
    rw [hH, hT] at hup
    have HH := hide hH
    have HT := hide hT
    have hhl : H.length ≤ 800 ∧ T.length ≤ 800 := by
      rw [← hH, ← hT]
      rcases first_of 10 s with h | ⟨A, B, e, hA⟩
      · rw [cutAt_no h]; simp; omega
      · have e2 := e
        rw [e, cutAt_yes hA]
        have : s.length = A.length + (B.length + 1) := by rw [e2]; simp
        simp only
        omega
    generalize (cutAt 10 s).2.2 = cb at hup
    have HUP := hide hup
    clear hup hH hT
    go_upto_region 6 with (fail)
    obtain ⟨lb, hlb⟩ : ∃ lb, lb = wc.heap.size := ⟨_, rfl⟩
    obtain ⟨W2, hW2⟩ : ∃ W, W = wc.alloc (.cells #[.string ⟨#[]⟩, .string ⟨#[115, 117, 109]⟩, .string ⟨#[108, 101, 97, 115, 116]⟩, .string ⟨#[103, 114, 101, 97, 116, 101, 115, 116]⟩, .string ⟨#[99, 111, 117, 110, 116]⟩] 9) := ⟨_, rfl⟩
    have hb2 : Below wc.heap.size wc W2 := by rw [hW2]; exact (Below.refl _ _).alloc (Nat.le_refl _) _
    have hk2 : Bk W2 lb [.string ⟨#[]⟩, .string ⟨#[115, 117, 109]⟩, .string ⟨#[108, 101, 97, 115, 116]⟩, .string ⟨#[103, 114, 101, 97, 116, 101, 115, 116]⟩, .string ⟨#[99, 111, 117, 110, 116]⟩] := by rw [hW2, hlb]; exact Bk.new rfl
    rw [← hW2, ← hlb]
    have HB2 := hide (HB.out.trans (hb2.mono HB.out.size))
    have HZ2 := hide (HZ.out.later hb2)
    have HFL2 := hide hk2
    have HLL : Hid (w.heap.size < lb) := by show _ < _; rw [hlb]; exact HZ.out.lt
    clear hW2 hlb hb2 hk2 HB HZ
    go_wp2_with fail
    refine (HUP.out W2).mono ?_
    rintro e w6 ⟨rfl, b6⟩
    have HB6 := hide (HB2.out.trans (b6.mono HB2.out.size))
    have HZ6 := hide (HZ2.out.later b6)
    have HFL6 := hide (HFL2.out.later b6)
    clear b6 HUP HB2 HZ2 HFL2
    go_upto_region 9 with (fail)
    obtain ⟨jb, hjb⟩ : ∃ jb, jb = w6.heap.size := ⟨_, rfl⟩
    obtain ⟨W7, hW7⟩ : ∃ W, W = w6.alloc (.cells #[.slice none 0 0, .int .i64 0, .bool false, .int .i64 0] 24) := ⟨_, rfl⟩
    have hb7 : Below w6.heap.size w6 W7 := by rw [hW7]; exact (Below.refl _ _).alloc (Nat.le_refl _) _
    have hk7 : Bk W7 jb [.slice none 0 0, .int .i64 0, .bool false, .int .i64 0] := by rw [hW7, hjb]; exact Bk.new rfl
    have hz7 : W7.heap.size = jb + 1 := by rw [hW7, hjb]; simp
    obtain ⟨W8, hW8⟩ : ∃ W, W = W7.alloc (.cells #[.string (tx H), .int .i64 0, .bool false] 95) := ⟨_, rfl⟩
    have hb8 : Below W7.heap.size W7 W8 := by rw [hW8]; exact (Below.refl _ _).alloc (Nat.le_refl _) _
    have hk8 : Lx W8 (jb + 1) (tx H) 0 false := by rw [hW8, ← hz7]; exact Bk.new rfl
    have hz8 : W8.heap.size = jb + 2 := by rw [hW8]; simp [hz7]
    rw [← hW7, ← hW8, ← hjb]
    have HJ := hide ((⟨hk7, HZ6.out.later hb7, HB6.out.trans (hb7.mono HB6.out.size), by rw [hjb]; exact HZ6.out.lt⟩ : JB w W7 jb [.slice none 0 0, .int .i64 0, .bool false, .int .i64 0]).later hb8)
    have HX := hide hk8
    have HFL := hide ((HFL6.out.later hb7).later hb8)
    have HLJ : Hid (lb < jb) := by show _ < _; rw [hjb]; exact HFL6.out.lt
    have HZ8 := hide hz8
    clear hW7 hW8 hjb hb7 hb8 hk7 hk8 hz7 hz8 HZ6 HB6 HFL6
    have hHS : (tx H).size = H.length := tx_size H
    have hR0 : restB (tx H) 0 = H := by unfold restB bytesOf; rw [tx_list]; rfl
    have HWD := hide (lword_any (jb + 1) (tx H) 0 false W8 HX.out (by omega) (by omega))
    rw [hR0] at HWD
    have HHS := hide hHS
    clear hR0 hHS
    obtain ⟨HB, hHB⟩ : ∃ HB, tx H = HB := ⟨_, rfl⟩
    rw [hHB] at HWD HHS HX ⊢
    have HHB := hide hHB
    clear hHB
    go_wp2_with fail
    refine HWD.out.mono ?_
    rintro e w3 ⟨⟨rfl, q, hx3, hr3, hq3⟩, k3⟩
    have HJ3 := hide (HJ.out.kept k3 fun q e => by omega)
    have HFL3 := hide (HFL.out.kept k3 (by have := HLJ.out; omega))
    have HX3 := hide hx3
    have HRQ := hide hr3
    have hqs : q ≤ 801 := by have := HHS.out; omega
    have HZ3 : Hid (jb + 2 ≤ w3.heap.size) := by show _ ≤ _; rw [← HZ8.out]; exact k3.size
    obtain ⟨A, hA⟩ : ∃ A, (wordR H).1 = A := ⟨_, rfl⟩
    rw [hA]
    have HA := hide hA
    clear hx3 hr3 hq3 k3 HWD HJ HFL HX HZ8 hA
    go_wp2
    go_loopw [11] (fun iv wr => ∃ k : Nat, 1 ≤ k ∧ k ≤ 5 ∧ iv = .int .i64 (k : Int) ∧ Hid (JB w wr jb [.slice none 0 0, .int .i64 (foldTo k A), .bool false, .int .i64 0]) ∧ Hid (Lx wr (jb + 1) HB q false) ∧ Hid (Bk wr lb [.string ⟨#[]⟩, .string ⟨#[115, 117, 109]⟩, .string ⟨#[108, 101, 97, 115, 116]⟩, .string ⟨#[103, 114, 101, 97, 116, 101, 115, 116]⟩, .string ⟨#[99, 111, 117, 110, 116]⟩]) ∧ Hid (jb + 2 ≤ wr.heap.size)) (fun iv _ => 5 - (intOf iv).toNat)
    case atStart => exact ⟨1, by omega, by omega, rfl, (by rw [foldTo_start]; exact HJ3), HX3, HFL3, HZ3⟩
    case round =>
      clear HJ3 HX3 HFL3 HZ3
      obtain ⟨k, hk1, hk2, rfl, HJ, HX, HFL, HZ⟩ := hrel
      by_cases hlt : k ≤ 4
      · have g1 : decide ((k : Int) ≤ 4) = true := by simp; omega
        have n0 := folds_at HFL.out ⟨hk1, hlt⟩
        have f1 : (0 : Int) ≤ (k : Int) ∧ (k : Int) < 5 := by omega
        obtain ⟨f1, f2⟩ := f1
        by_cases hn : foldK (k : Int) = A
        · have t1 : ((tx (foldK (k : Int))).toList == (tx A).toList) = true := by rw [hn]; exact beqq _
          have c1 := HJ.out.bk.get (j := 1) rfl
          have y1 := HJ.out.bk.fz 1
          have HJ2 : Hid (JB w (wr.setCell ⟨jb, 1, none⟩ (.int .i64 (k : Int))) jb [.slice none 0 0, .int .i64 (foldTo (k + 1) A), .bool false, .int .i64 0]) := by
            rw [foldTo_hit ⟨hk1, hlt⟩ hn]
            exact HJ.out.setJ 1 _ (by simp)
          have HX2 := hide (Bk.setO HX.out (p := ⟨jb, 1, none⟩) (by simp) (.int .i64 (k : Int)))
          have HFL2 := hide (HFL.out.setO (p := ⟨jb, 1, none⟩) (by have := HLJ.out; simp; omega) (.int .i64 (k : Int)))
          have HZ2 : Hid (jb + 2 ≤ (wr.setCell ⟨jb, 1, none⟩ (.int .i64 (k : Int))).heap.size) := by simpa [World.setCell, Hid] using HZ.out
          clear hn HJ HX HFL HZ
          go_wp2
          go_roundw
          case rel => exact ⟨k + 1, by omega, by omega, by go_num, HJ2, HX2, HFL2, HZ2⟩
          case measure => (simp [intOf]; try omega)
        · have t1 : ((tx (foldK (k : Int))).toList == (tx A).toList) = false := by rw [tl, tl, tx_list, tx_list, beq_eq_false_iff_ne]; exact hn
          have HJ2 : Hid (JB w wr jb [.slice none 0 0, .int .i64 (foldTo (k + 1) A), .bool false, .int .i64 0]) := by
            rw [foldTo_miss ⟨hk1, hlt⟩ hn]; exact HJ
          clear hn HJ
          go_wp2
          go_roundw
          case rel => exact ⟨k + 1, by omega, by omega, by go_num, HJ2, HX, HFL, HZ⟩
          case measure => (simp [intOf]; try omega)
      · obtain rfl : k = 5 := by omega
        rw [foldTo_done] at HJ
        clear HFL hlt hk1 hk2
        obtain ⟨B, hB⟩ : ∃ B, (wordR H).2 = B := ⟨_, rfl⟩
        rw [hB] at HRQ
        have HBB := hide hB
        clear hB
        have HWD := hide (lword_any (jb + 1) HB q false wr HX.out (by have := HHS.out; omega) (by omega))
        rw [HRQ.out] at HWD
        have HNA := hide fun w' => Number_any (tx (wordR B).1) w' (by
          have h1 := (wordR_len B).1
          have h2 := rest_len HB q
          rw [HRQ.out] at h2
          have := HHS.out
          rw [tx_size]; omega)
        rw [tx_list] at HNA
        have HRB := hide (refNum_bd (wordR B).1)
        have HOK := hide (numOk_ref (l := (wordR B).1))
        have HOV := hide fun h => numOk_refv (l := (wordR B).1) h
        obtain ⟨rn, hrn⟩ : ∃ rn, refNum (wordR B).1 = rn := ⟨_, rfl⟩
        rw [hrn] at HNA HRB HOK HOV
        clear hrn
        have hnn := HRB.out
        obtain ⟨sl, ro⟩ := rn
        dsimp only at HNA HRB HOK HOV hnn
        go_wp2_with fail
        refine HWD.out.mono ?_
        rintro e w4 ⟨⟨rfl, q2, hx4, hr4, hq4⟩, k4⟩
        have HJ4 := hide (HJ.out.kept k4 fun q e => by omega)
        have HX4 := hide hx4
        have HR4 := hide hr4
        have HZ4 : Hid (jb + 2 ≤ w4.heap.size) := Nat.le_trans HZ.out k4.size
        have hq42 : q2 ≤ 802 := by have := HHS.out; omega
        clear hx4 hr4 k4 HWD HJ HX HRQ HZ hq4
        go_wp2_with fail
        refine (HNA.out w4).mono ?_
        rintro e w5 ⟨rfl, rfl⟩
        have c3 := HJ4.out.bk.get (j := 3) rfl
        have y3 := HJ4.out.bk.fz 3
        have HJ5 := hide (HJ4.out.setJ 3 (.int .i64 sl) (by simp))
        have HX5 := hide (Bk.setO HX4.out (p := ⟨jb, 3, none⟩) (by simp) (.int .i64 sl))
        have HZ5 : Hid (jb + 2 ≤ (w4.setCell ⟨jb, 3, none⟩ (.int .i64 sl)).heap.size) := by simpa [World.setCell, Hid] using HZ4.out
        clear HNA
        obtain ⟨wq, hwq⟩ : ∃ wq, wq = w4.setCell ⟨jb, 3, none⟩ (.int .i64 sl) := ⟨_, rfl⟩
        rw [← hwq] at HJ5 HX5 HZ5
        have HWQ := hide hwq
        clear hwq HJ4 HX4 HZ4
        go_upto_region 17 with (fail)
        rw [← HWQ.out]
        clear c3 y3
        cases ro with
        | false =>
          have HNO : Hid (NoJob s) := fun rv fold slices early hf e => by
            exfalso
            have h1 := head_cut rv fold slices early
            rw [← e] at h1
            have h2 := HH.out
            rw [h1] at h2
            obtain ⟨_, hf2, hs2, _⟩ := jobF_ok hf
            have h3 := headR_text early hf2 hs2
            rw [show headT fold slices early = H from h2] at h3
            have h4 : (headR H).2.2.2 = false := by rw [h3]
            unfold headR at h4
            simp only at h4
            rw [HBB.out, ← HOK.out] at h4
            cases h4
          have HRZ := hide HJ5.out.rb
          have HBZ := hide HJ5.out.k
          clear HJ5 HX5 HZ5 HOK HOV HRB HH HT
          go_upto_region 18 with (fail)
          obtain ⟨wz, rfl⟩ : ∃ wz, wz = wq := ⟨_, rfl⟩
          have r0 := HRZ.out.get (j := 0) rfl
          have r1 := HRZ.out.get (j := 1) rfl
          have r2 := HRZ.out.get (j := 2) rfl
          have r3 := HRZ.out.get (j := 3) rfl
          have y0 := HRZ.out.fz 0
          have y1 := HRZ.out.fz 1
          have y2 := HRZ.out.fz 2
          have y3 := HRZ.out.fz 3
          have hk9 := HRZ.out.set4 (.slice none 0 0) (.int .i64 0) (.bool false) (.int .i64 0)
          have f0 := hk9.get (j := 0) rfl
          have f1 := hk9.get (j := 1) rfl
          have f2 := hk9.get (j := 2) rfl
          have f3 := hk9.get (j := 3) rfl
          have HBF : Hid (Below w.heap.size w ((((wz.setCell ⟨w.heap.size, 0, none⟩ (.slice none 0 0)).setCell ⟨w.heap.size, 1, none⟩ (.int .i64 0)).setCell ⟨w.heap.size, 2, none⟩ (.bool false)).setCell ⟨w.heap.size, 3, none⟩ (.int .i64 0))) :=
            (((HBZ.out.setCell (p := ⟨w.heap.size, 0, none⟩) (Nat.le_refl _) _).setCell (p := ⟨w.heap.size, 1, none⟩) (Nat.le_refl _) _).setCell (p := ⟨w.heap.size, 2, none⟩) (Nat.le_refl _) _).setCell (p := ⟨w.heap.size, 3, none⟩) (Nat.le_refl _) _
          clear hk9 HRZ HBZ
          go_wp2
          refine bodyPost_ret (v := .tuple #[.agg #[.slice none 0 0, .int .i64 0, .bool false, .int .i64 0], .int .i64 4]) (by simp [results, Tryz.results14, go_sem, f0, f1, f2, f3, y0, y1, y2, y3]) rfl ?_
          exact ⟨.inr ⟨HNO.out, by rw [if_neg HS8.out]; rfl⟩, HBF.out⟩
        | true =>
        have HSL : Hid (sl = atoiV (wordR B).1) := HOV.out (by rw [← HOK.out])
        obtain ⟨eb, heb⟩ : ∃ eb, decide (restB HB q2 = earlyW) = eb := ⟨_, rfl⟩
        have HEB := hide heb
        have c5 : wq.cell? ⟨jb + 1, 1, none⟩ = some (.int .i64 (q2 : Int)) := Lx.p HX5.out
        clear heb
        obtain ⟨qb, hqb⟩ : ∃ qb, decide (q2 ≤ HB.size) = qb := ⟨_, rfl⟩
        go_upto_if 79 with (fail)
        have HQB := hide hqb
        clear hqb
        go_cut [] from 80 to 87 (fun wd => Hid (JB w wd jb [.slice none 0 0, .int .i64 (foldN A), .bool eb, .int .i64 sl]) ∧ Hid (Lx wd (jb + 1) HB q2 false) ∧ Hid (jb + 2 ≤ wd.heap.size))
        case first =>
          have c2 := HJ5.out.bk.get (j := 2) rfl
          have y2 := HJ5.out.bk.fz 2
          cases qb with
          | false =>
            have hq : ¬ q2 ≤ HB.size := by have := HQB.out; simpa using this
            obtain rfl : eb = false := by rw [← HEB.out, rest_nil (by omega)]; rfl
            clear hq HQB HEB
            go_wp2
            go_meet
            exact ⟨HJ5, HX5, HZ5⟩
          | true =>
            have hq : q2 ≤ HB.size := by have := HQB.out; simpa using this
            have f1 : (0 : Int) ≤ (q2 : Int) ∧ (q2 : Int) ≤ (HB.size : Int) := by omega
            obtain ⟨f1, f2⟩ := f1
            have HEX : (HB.extract q2 HB.size).toList = restB HB q2 := by
              rw [tl, Lib.extract_data, List.take_of_length_le (by rw [List.length_drop, tl_len]; omega)]; rfl
            have t1 : ((HB.extract q2 HB.size).toList == [101, 97, 114, 108, 121]) = eb := by
              rw [HEX, ← HEB.out, Bool.eq_iff_iff, beq_iff_eq, decide_eq_true_eq]; rfl
            have HJ6 := hide (HJ5.out.setJ 2 (.bool eb) (by simp))
            have HX6 := hide (Bk.setO HX5.out (p := ⟨jb, 2, none⟩) (by simp) (.bool eb))
            have HZ6 : Hid (jb + 2 ≤ (wq.setCell ⟨jb, 2, none⟩ (.bool eb)).heap.size) := by simpa [World.setCell, Hid] using HZ5.out
            clear hq HQB HEB HEX
            go_wp2
            go_meet
            exact ⟨HJ6, HX6, HZ6⟩
        case rest =>
        obtain ⟨HJ, HX, HZ⟩ := hcut
        clear HJ5 HX5 HZ5 HQB c5 HOV HRB HWQ
        obtain ⟨fo, hfo⟩ : ∃ fo, foldN A = fo := ⟨_, rfl⟩
        rw [hfo] at HJ
        have HVD : Hid (∀ rv fold slices early, jobF rv fold slices = 0 → s = jobT rv fold slices early → (fo = fold ∧ sl = slices ∧ eb = early) ∧ T = linesT rv) := fun rv fold slices early hf e => by
          have h1 := head_cut rv fold slices early
          rw [← e] at h1
          have h2 := HH.out
          have h5 := HT.out
          rw [h1] at h2 h5
          obtain ⟨_, hf2, hs2, _⟩ := jobF_ok hf
          have h3 := headR_text early hf2 hs2
          rw [show headT fold slices early = H from h2] at h3
          unfold headR at h3
          simp only [Prod.mk.injEq] at h3
          obtain ⟨p1, p2, p3, _⟩ := h3
          rw [HA.out, hfo] at p1
          rw [HBB.out, ← HSL.out] at p2
          rw [HBB.out, ← HR4.out, HEB.out] at p3
          exact ⟨⟨p1, p2, p3⟩, h5.symm⟩
        have hfb := foldN_range A
        rw [hfo] at hfb
        clear hfo HA HBB HR4 HEB HSL HOK HH HT
        have hTl := hhl.2
        obtain ⟨B0, hB0⟩ : ∃ B0, B0 = wc.heap.size := ⟨_, rfl⟩
        have HB0 : Hid (jb < B0 ∧ w.heap.size < jb) := by rw [hB0]; exact ⟨HJ.out.bk.lt, HJ.out.lt⟩
        have HZ0 : Hid (B0 ≤ wc.heap.size) := by show _ ≤ _; omega
        clear HX HZ HLL HLJ HHS HHB hhl hsz h8 hs hB0
        go_wp2
        go_loopw [6] (fun tv wr => ∃ (R : List UInt8) (l : List RuleR) (ea : Option Addr) (ec : Nat), tv = .string (tx R) ∧ l.length + R.length ≤ 800 ∧ Hid (JB w wr jb [.slice ea l.length ec, .int .i64 fo, .bool eb, .int .i64 sl]) ∧ Hid (RulesIn wr B0 (.slice ea l.length ec) l) ∧ Hid (∀ r ∈ l, r.cond.tree.nodes ≤ 2000000 ∧ r.key.tree.nodes ≤ 2000000 ∧ r.val.tree.nodes ≤ 2000000) ∧ Hid (∀ rv fold slices early, jobF rv fold slices = 0 → s = jobT rv fold slices early → ∃ n, l.map RuleR.v = rv.take n ∧ R = linesT (rv.drop n)) ∧ Hid (B0 ≤ wr.heap.size)) (fun tv _ => strLen tv)
        case atStart => exact ⟨T, [], none, 0, rfl, by simpa using hTl, HJ, RulesIn.nil, (fun r hr => by cases hr), (fun rv f sl e h1 h2 => ⟨0, by simp, by rw [List.drop_zero]; exact (HVD.out rv f sl e h1 h2).2⟩), HZ0⟩
        case round =>
          clear HJ HZ0
          obtain ⟨R, l, ea, ec, rfl, hlR, HJ, HRI, HND, HV, HZ⟩ := hrel
          by_cases hne : R = []
          · subst hne
            have HEND : Hid (∀ rv fold slices early, jobF rv fold slices = 0 → s = jobT rv fold slices early → l.map RuleR.v = rv ∧ fo = fold ∧ sl = slices ∧ eb = early) := fun rv f sl e h1 h2 => by
              obtain ⟨n, e1, e2⟩ := HV.out rv f sl e h1 h2
              have e3 := linesT_nil e2.symm
              have e4 := (HVD.out rv f sl e h1 h2).1
              refine ⟨?_, e4⟩
              rw [e1]
              have := List.take_append_drop n rv
              rw [e3, List.append_nil] at this
              exact this
            have g1 : decide ((0 : Int) < ((tx []).size : Int)) = false := by decide
            have c0 := HJ.out.bk.get (j := 0) rfl
            have c1 := HJ.out.bk.get (j := 1) rfl
            have c2 := HJ.out.bk.get (j := 2) rfl
            have c3 := HJ.out.bk.get (j := 3) rfl
            have HJS := hide HRI.out.job
            have hll : l.length ≤ maxLen := by simp only [List.length_nil] at hlR; unfold maxLen; omega
            have HJF := hide (JobFault_any ea ec l fo sl eb wr hll HJS.out.sl (fun r hr => ⟨6, HJS.out.rule r hr⟩) HND.out)
            obtain ⟨jf, hjf⟩ : ∃ jf, jobF (l.map RuleR.v) fo sl = jf := ⟨_, rfl⟩
            have hjn := jobF_nn (l.map RuleR.v) fo sl
            rw [hjf] at HJF hjn
            have HJE := hide hjf
            clear hjf HV HVD HRI HND
            go_wp2_with fail
            refine HJF.out.mono ?_
            rintro e w5 ⟨rfl, b5⟩
            replace c0 := cell_later b5 c0
            replace c1 := cell_later b5 c1
            replace c2 := cell_later b5 c2
            replace c3 := cell_later b5 c3
            have HJ5 := hide (HJ.out.later b5)
            have HJS5 := hide (HJS.out.kept (KeptBut.of_below (S := fun _ => False) b5 (Nat.le_refl _)) fun _ _ h => h)
            clear b5 HJF HJ HJS
            by_cases hj0 : jf = 0
            · subst hj0
              have g2 : decide ((0 : Int) < 0) = false := by decide
              have HJT := hide (RefJobText_any ea ec l fo sl eb w5 HJE.out HJS5.out.sl (fun r hr => ⟨6, HJS5.out.rule r hr⟩))
              obtain ⟨tt, ef, hto⟩ : ∃ tt ef, textOut (l.map RuleR.v) fo sl eb = (tt, ef) := ⟨_, _, rfl⟩
              rw [hto] at HJT
              have HTO := hide hto
              clear hto
              go_wp2_with fail
              refine HJT.out.mono ?_
              rintro e w6 ⟨rfl, b6⟩
              replace c0 := cell_later b6 c0
              replace c1 := cell_later b6 c1
              replace c2 := cell_later b6 c2
              replace c3 := cell_later b6 c3
              have HJ6 := hide (HJ5.out.later b6)
              have HJS6 := hide (HJS5.out.kept (KeptBut.of_below (S := fun _ => False) b6 (Nat.le_refl _)) fun _ _ h => h)
              clear b6 HJT HJ5 HJS5
              have HTV : Hid (ef = 0 ∨ ef = 2) := by
                have h1 := HTO.out
                unfold textOut at h1
                rw [if_neg (by rw [HJE.out]; simp)] at h1
                split at h1
                · simp only [Prod.mk.injEq] at h1; exact .inr h1.2.symm
                · simp only [Prod.mk.injEq] at h1; exact .inl h1.2.symm
              have HRZ := hide HJ6.out.rb
              have HBZ := hide HJ6.out.k
              have HKEY : Hid (∀ rv f sl e, jobF rv f sl = 0 → s = jobT rv f sl e → tt = s ∧ ef = 0) := fun rv f sl' e h1 h2 => by
                obtain ⟨e1, e2, e3, e4⟩ := HEND.out rv f sl' e h1 h2
                have h3 := HTO.out
                unfold textOut at h3
                rw [if_neg (by rw [HJE.out]; simp), e1, e2, e3, e4, ← h2, if_neg HS8.out] at h3
                simp only [Prod.mk.injEq] at h3
                exact ⟨h3.1.symm, h3.2.symm⟩
              rcases HTV.out with hef | hef
              · subst hef
                have g3 : decide ((0 : Int) < 0) = false := by decide
                by_cases hts : tt = s
                · have g4 : ((tx tt).toList == S.toList) = true := by rw [hts, HSS.out]; exact beqq _
                  have HOK : Hid (jobF (l.map RuleR.v) fo sl = 0 ∧ s = jobT (l.map RuleR.v) fo sl eb ∧ s.length ≤ 800) := by
                    have h1 := HTO.out
                    unfold textOut at h1
                    rw [if_neg (by rw [HJE.out]; simp)] at h1
                    split at h1
                    · simp at h1
                    · simp only [Prod.mk.injEq] at h1
                      exact ⟨HJE.out, by rw [← hts, h1.1], by have := HS8.out; omega⟩
                  have r0 := HRZ.out.get (j := 0) rfl
                  have r1 := HRZ.out.get (j := 1) rfl
                  have r2 := HRZ.out.get (j := 2) rfl
                  have r3 := HRZ.out.get (j := 3) rfl
                  have y0 := HRZ.out.fz 0
                  have y1 := HRZ.out.fz 1
                  have y2 := HRZ.out.fz 2
                  have y3 := HRZ.out.fz 3
                  have hk9 := HRZ.out.set4 (.slice ea l.length ec) (.int .i64 fo) (.bool eb) (.int .i64 sl)
                  have f0 := hk9.get (j := 0) rfl
                  have f1 := hk9.get (j := 1) rfl
                  have f2 := hk9.get (j := 2) rfl
                  have f3 := hk9.get (j := 3) rfl
                  have HJSF := hide ((HJS6.out.kept (kept_set4 (.slice ea l.length ec) (.int .i64 fo) (.bool eb) (.int .i64 sl) (KeptBut.refl (fun q => q = w.heap.size) w6) (b := w.heap.size) (.inl rfl)) fun q hq e => by have h2 := HB0.out; omega).mono (T := fun q => w.heap.size ≤ q) fun q hq => by have h2 := HB0.out; omega)
                  have HBF : Hid (Below w.heap.size w ((((w6.setCell ⟨w.heap.size, 0, none⟩ (.slice ea l.length ec)).setCell ⟨w.heap.size, 1, none⟩ (.int .i64 fo)).setCell ⟨w.heap.size, 2, none⟩ (.bool eb)).setCell ⟨w.heap.size, 3, none⟩ (.int .i64 sl))) :=
                    (((HBZ.out.setCell (p := ⟨w.heap.size, 0, none⟩) (Nat.le_refl _) _).setCell (p := ⟨w.heap.size, 1, none⟩) (Nat.le_refl _) _).setCell (p := ⟨w.heap.size, 2, none⟩) (Nat.le_refl _) _).setCell (p := ⟨w.heap.size, 3, none⟩) (Nat.le_refl _) _
                  clear hk9 hts HTO HRZ HBZ HTV
                  go_wp2
                  refine bodyPost_ret (v := .tuple #[.agg #[.slice ea l.length ec, .int .i64 fo, .bool eb, .int .i64 sl], .int .i64 0]) (by simp [results, Tryz.results14, go_sem, f0, f1, f2, f3]) rfl ?_
                  exact ⟨.inl ⟨ea, ec, l, fo, sl, eb, HOK.out, rfl, HJSF.out⟩, HBF.out⟩
                · have g4 : ((tx tt).toList == S.toList) = false := bneq (fun e => hts (tx_inj (e.trans HSS.out.symm)))
                  have HNO : Hid (NoJob s) := fun rv f sl e h1 h2 => absurd (HKEY.out rv f sl e h1 h2).1 hts
                  clear hts HTO HTV
                  go_upto_region 50 with (fail)
                  clear c0 c1 c2 c3 g1 g2 g3 g4
                  obtain ⟨wz, rfl⟩ : ∃ wz, wz = w6 := ⟨_, rfl⟩
                  have r0 := HRZ.out.get (j := 0) rfl
                  have r1 := HRZ.out.get (j := 1) rfl
                  have r2 := HRZ.out.get (j := 2) rfl
                  have r3 := HRZ.out.get (j := 3) rfl
                  have y0 := HRZ.out.fz 0
                  have y1 := HRZ.out.fz 1
                  have y2 := HRZ.out.fz 2
                  have y3 := HRZ.out.fz 3
                  have hk9 := HRZ.out.set4 (.slice none 0 0) (.int .i64 0) (.bool false) (.int .i64 0)
                  have f0 := hk9.get (j := 0) rfl
                  have f1 := hk9.get (j := 1) rfl
                  have f2 := hk9.get (j := 2) rfl
                  have f3 := hk9.get (j := 3) rfl
                  have HBF : Hid (Below w.heap.size w ((((wz.setCell ⟨w.heap.size, 0, none⟩ (.slice none 0 0)).setCell ⟨w.heap.size, 1, none⟩ (.int .i64 0)).setCell ⟨w.heap.size, 2, none⟩ (.bool false)).setCell ⟨w.heap.size, 3, none⟩ (.int .i64 0))) :=
                    (((HBZ.out.setCell (p := ⟨w.heap.size, 0, none⟩) (Nat.le_refl _) _).setCell (p := ⟨w.heap.size, 1, none⟩) (Nat.le_refl _) _).setCell (p := ⟨w.heap.size, 2, none⟩) (Nat.le_refl _) _).setCell (p := ⟨w.heap.size, 3, none⟩) (Nat.le_refl _) _
                  clear hk9 HRZ HBZ
                  go_wp2
                  refine bodyPost_ret (v := .tuple #[.agg #[.slice none 0 0, .int .i64 0, .bool false, .int .i64 0], .int .i64 4]) (by simp [results, Tryz.results14, go_sem, f0, f1, f2, f3, y0, y1, y2, y3]) rfl ?_
                  exact ⟨.inr ⟨HNO.out, by rw [if_neg HS8.out]; rfl⟩, HBF.out⟩
              · subst hef
                have g3 : decide ((0 : Int) < 2) = true := by decide
                have HNO : Hid (NoJob s) := fun rv f sl e h1 h2 => absurd (HKEY.out rv f sl e h1 h2).2 (by decide)
                clear HTO HTV
                go_upto_region 50 with (fail)
                clear c0 c1 c2 c3 g1 g2 g3
                obtain ⟨wz, rfl⟩ : ∃ wz, wz = w6 := ⟨_, rfl⟩
                have r0 := HRZ.out.get (j := 0) rfl
                have r1 := HRZ.out.get (j := 1) rfl
                have r2 := HRZ.out.get (j := 2) rfl
                have r3 := HRZ.out.get (j := 3) rfl
                have y0 := HRZ.out.fz 0
                have y1 := HRZ.out.fz 1
                have y2 := HRZ.out.fz 2
                have y3 := HRZ.out.fz 3
                have hk9 := HRZ.out.set4 (.slice none 0 0) (.int .i64 0) (.bool false) (.int .i64 0)
                have f0 := hk9.get (j := 0) rfl
                have f1 := hk9.get (j := 1) rfl
                have f2 := hk9.get (j := 2) rfl
                have f3 := hk9.get (j := 3) rfl
                have HBF : Hid (Below w.heap.size w ((((wz.setCell ⟨w.heap.size, 0, none⟩ (.slice none 0 0)).setCell ⟨w.heap.size, 1, none⟩ (.int .i64 0)).setCell ⟨w.heap.size, 2, none⟩ (.bool false)).setCell ⟨w.heap.size, 3, none⟩ (.int .i64 0))) :=
                  (((HBZ.out.setCell (p := ⟨w.heap.size, 0, none⟩) (Nat.le_refl _) _).setCell (p := ⟨w.heap.size, 1, none⟩) (Nat.le_refl _) _).setCell (p := ⟨w.heap.size, 2, none⟩) (Nat.le_refl _) _).setCell (p := ⟨w.heap.size, 3, none⟩) (Nat.le_refl _) _
                clear hk9 HRZ HBZ
                go_wp2
                refine bodyPost_ret (v := .tuple #[.agg #[.slice none 0 0, .int .i64 0, .bool false, .int .i64 0], .int .i64 4]) (by simp [results, Tryz.results14, go_sem, f0, f1, f2, f3, y0, y1, y2, y3]) rfl ?_
                exact ⟨.inr ⟨HNO.out, by rw [if_neg HS8.out]; rfl⟩, HBF.out⟩
            · have g2 : decide ((0 : Int) < jf) = true := by rw [decide_eq_true_eq]; omega
              have HNO : Hid (NoJob s) := fun rv f sl' e h1 h2 => by
                exfalso
                obtain ⟨e1, e2, e3, e4⟩ := HEND.out rv f sl' e h1 h2
                have h3 := HJE.out
                rw [e1, e2, e3, h1] at h3
                exact hj0 h3.symm
              have HRZ := hide HJ5.out.rb
              have HBZ := hide HJ5.out.k
              clear hj0
              go_upto_region 47 with (fail)
              clear c0 c1 c2 c3 g1 g2
              obtain ⟨wz, rfl⟩ : ∃ wz, wz = w5 := ⟨_, rfl⟩
              have r0 := HRZ.out.get (j := 0) rfl
              have r1 := HRZ.out.get (j := 1) rfl
              have r2 := HRZ.out.get (j := 2) rfl
              have r3 := HRZ.out.get (j := 3) rfl
              have y0 := HRZ.out.fz 0
              have y1 := HRZ.out.fz 1
              have y2 := HRZ.out.fz 2
              have y3 := HRZ.out.fz 3
              have hk9 := HRZ.out.set4 (.slice none 0 0) (.int .i64 0) (.bool false) (.int .i64 0)
              have f0 := hk9.get (j := 0) rfl
              have f1 := hk9.get (j := 1) rfl
              have f2 := hk9.get (j := 2) rfl
              have f3 := hk9.get (j := 3) rfl
              have HBF : Hid (Below w.heap.size w ((((wz.setCell ⟨w.heap.size, 0, none⟩ (.slice none 0 0)).setCell ⟨w.heap.size, 1, none⟩ (.int .i64 0)).setCell ⟨w.heap.size, 2, none⟩ (.bool false)).setCell ⟨w.heap.size, 3, none⟩ (.int .i64 0))) :=
                (((HBZ.out.setCell (p := ⟨w.heap.size, 0, none⟩) (Nat.le_refl _) _).setCell (p := ⟨w.heap.size, 1, none⟩) (Nat.le_refl _) _).setCell (p := ⟨w.heap.size, 2, none⟩) (Nat.le_refl _) _).setCell (p := ⟨w.heap.size, 3, none⟩) (Nat.le_refl _) _
              clear hk9 HRZ HBZ
              go_wp2
              refine bodyPost_ret (v := .tuple #[.agg #[.slice none 0 0, .int .i64 0, .bool false, .int .i64 0], .int .i64 4]) (by simp [results, Tryz.results14, go_sem, f0, f1, f2, f3, y0, y1, y2, y3]) rfl ?_
              exact ⟨.inr ⟨HNO.out, by rw [if_neg HS8.out]; rfl⟩, HBF.out⟩
          · have hR0 : 0 < R.length := List.length_pos_iff.2 hne
            have g1 : decide (0 < (tx R).size) = true := by rw [tx_size, decide_eq_true_eq]; exact hR0
            have HVL : Hid (∀ rv fold slices early, jobF rv fold slices = 0 → s = jobT rv fold slices early → ∃ n r0, rv[n]? = some r0 ∧ l.map RuleR.v = rv.take n ∧ lineR (cutAt 10 R).1 = some r0 ∧ (cutAt 10 R).2.1 = linesT (rv.drop (n + 1))) := fun rv f sl e h1 h2 => by
              obtain ⟨n, e1, e2⟩ := HV.out rv f sl e h1 h2
              cases hd : rv.drop n with
              | nil => rw [hd] at e2; exact absurd e2 hne
              | cons r0 rest =>
                have hn : rv[n]? = some r0 := by rw [← List.head?_drop, hd]; rfl
                have hr0 : ruleF r0 = 0 := (jobF_ok h1).2.2.2 r0 (List.mem_of_getElem? hn)
                have e3 := lines_cut (l := rest) hr0
                rw [hd] at e2
                rw [← e2] at e3
                have e4 : rv.drop (n + 1) = rest := by rw [← List.tail_drop, hd]; rfl
                exact ⟨n, r0, hn, e1, by rw [e3]; exact lineR_valid hr0, by rw [e3, e4]⟩
            have hLM : (cutAt 10 R).1.length ≤ R.length ∧ (cutAt 10 R).2.1.length < R.length := by
              rcases first_of 10 R with h | ⟨A, B, e, hA⟩
              · rw [cutAt_no h]; exact ⟨Nat.le_refl _, hR0⟩
              · have e2 := e
                rw [e, cutAt_yes hA]
                have e3 : (A ++ 10 :: B).length = A.length + (B.length + 1) := by simp
                simp only
                omega
            obtain ⟨L, hL⟩ : ∃ L, (cutAt 10 R).1 = L := ⟨_, rfl⟩
            obtain ⟨M, hM⟩ : ∃ M, (cutAt 10 R).2.1 = M := ⟨_, rfl⟩
            rw [hL, hM] at hLM HVL
            obtain ⟨hL8, hMR⟩ := hLM
            have HMR : Hid (M.length < R.length) := hMR
            have HNR : Hid ((tx M).size < (tx R).size) := by show _ < _; rw [tx_size, tx_size]; exact hMR
            have hR8 : R.length ≤ 800 := by omega
            clear hne hR0
            go_upto_block 3 with (fail)
            refine JobOf_line (Q := Exit.then _ _) HJ.out HRI.out HZ.out HB0.out.1 hL hM hR8 (by omega) (by omega) _ _ _ _ _ _ _ _ _ _ _ _ _ _ _ _ _ _ _ _ _ _ _ _ _ _ _ _ _ _ _ _ _ _ _ _ _ _ _ _ _ _ _ _ _ _ _ _ _ _ _ _ _ _ _ _ _ _ _ _ _ _ _ _ _ _ _ _ _ _ _ _ _ _ _ _ _ _ _ _ _ _ _ _ _ _ _ _ _ _ _ _ _ _ _ _ _ _ _ _ _ _ _ _ _ _ _ _ _ _ _ _ _ _ _ _ _ _ _ _ _ _ _ _ _ _ _ _ _ _ _ _ _ _ _ _ _ _ _ _ _ _ _ _ _ _ _ _ _ _ _ _ _ _ _ _ _ _ _ _ _ _ _ _ _ _ _ _ _ _ _ _ _ _ _ _ ?_ ?_
            · intro v14 v15 v16 v17 v18 v91 v92 v93 v94 v95 v96 v97 v98 v99 v100 v101 v102 v103 v104 v105 v106 v107 v108 v109 v110 v111 v112 v113 v114 v115 v116 v117 v118 v119 v120 v121 v122 v123 v124 v125 v126 v127 v128 v129 v130 v131 v132 v133 v134 v135 v136 v137 v138 v139 v140 v141 v142 v143 v144 v145 v146 v147 v148 v149 v150 v151 v152 v153 v154 v155 v156 v157 v158 v159 v160 w9 hpost
              obtain ⟨r, na, nc, h1, h2, h3, h4, h5⟩ := hpost
              have HJ9 := hide h1
              have HRI9 := hide h2
              have HLR9 := hide h3
              have HN4 := hide h4
              have HZ9 := hide h5
              have HV9 : Hid (∀ rv fold slices early, jobF rv fold slices = 0 → s = jobT rv fold slices early → ∃ n, (l ++ [r]).map RuleR.v = rv.take n ∧ M = linesT (rv.drop n)) := fun rv f sl e h1 h2 => by
                obtain ⟨n, r0, e1, e2, e3, e4⟩ := HVL.out rv f sl e h1 h2
                rw [HLR9.out] at e3
                have e5 := Option.some.inj e3
                refine ⟨n + 1, ?_, e4⟩
                rw [List.map_append, e2, List.take_add_one, e1, ← e5]; rfl
              have HL1 : Hid ((l ++ [r]).length = l.length + 1) := by show _ = _; simp
              have hl9 : (l ++ [r]).length + M.length ≤ 800 := by rw [HL1.out]; omega
              have HND9 : Hid (∀ x ∈ l ++ [r], x.cond.tree.nodes ≤ 2000000 ∧ x.key.tree.nodes ≤ 2000000 ∧ x.val.tree.nodes ≤ 2000000) := fun x hx => by
                rcases List.mem_append.1 hx with hx | hx
                · exact HND.out x hx
                · rw [List.mem_singleton.1 hx]; exact HN4.out
              rw [← HL1.out] at HJ9 HRI9
              clear h1 h2 h3 h4 h5 hL hM hL8 hMR hlR HJ HRI HND HV HVL HLR9 HN4 HL1 HZ
              clear g1
              go_wp2
              go_roundw
              case rel => exact ⟨M, l ++ [r], na, nc, rfl, hl9, HJ9, HRI9, HND9, HV9, HZ9⟩
              case measure => exact HNR.out
            · intro a w9 hd hr hno hb
              refine bodyPost_ret (v := .tuple #[.agg #[.slice none 0 0, .int .i64 0, .bool false, .int .i64 0], .int .i64 4]) hr hd ?_
              exact ⟨.inr ⟨fun rv f sl e h1 h2 => (by
                obtain ⟨n, r0, e1, e2, e3, e4⟩ := HVL.out rv f sl e h1 h2
                rw [hno] at e3; cases e3), by rw [if_neg HS8.out]; rfl⟩, hb⟩
end Go.Proofs.YtgeedjlbajmdkaaGreatDoor
