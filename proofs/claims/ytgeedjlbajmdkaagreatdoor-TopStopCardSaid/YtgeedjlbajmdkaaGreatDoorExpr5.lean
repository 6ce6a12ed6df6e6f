/- Expressions: ref.noEnd, ref.shaped; Check and ExprFault. -/
import Derived.Test.YtgeedjlbajmdkaaGreatDoorExpr4
import Derived.Test.YtgeedjlbajmdkaaGreatDoorWords2
set_option linter.unusedSimpArgs false
set_option linter.unusedVariables false
namespace Go.Proofs.YtgeedjlbajmdkaaGreatDoor
open Go.RowKit Go.ChangeShapes Go.WideShapes Go.ChangeAt

theorem noEnd_any (s : ByteArray) (w : World) (hs : s.size ≤ maxLen) :
    Calls Tryz.prog 38 #[.string s] w fun e w' => e = .returned (.bool (!decide (0 ≤ Lib.indexByte s.data.toList 10))) ∧ w = w' := by
  unfold maxLen at hs
  go_enter Tryz.func38, Tryz.ntmps38
  go_wp2
  go_loop [3] (fun i => ∃ j : Nat, j ≤ s.size ∧ i = .int .i64 j ∧ Hid (∀ q, q < j → s.data.toList[q]? ≠ some 10)) (fun i => s.size - (intOf i).toNat)
  case atStart => exact ⟨0, by omega, rfl, fun q h => absurd h (by omega)⟩
  case round =>
    obtain ⟨j, hj, rfl, hno⟩ := hrel
    by_cases hlt : j < s.size
    · have hg : s.data.toList[j]? = some (s[j]'hlt) := bytes_get hlt
      have f1 : (0 : Int) ≤ (j : Int) ∧ (j : Int) < (s.size : Int) := by omega
      obtain ⟨f1, f2⟩ := f1
      by_cases hc : s[j]'hlt = 10
      · have hq : ((((s[j]'hlt).toNat : Nat) : Int) == 10) = true := by rw [hc]; rfl
        have hr : Hid (decide (0 ≤ Lib.indexByte s.data.toList 10) = true) := by
          have h1 := Lib.indexByte_ge s.data.toList 10
          refine decide_eq_true ?_
          rcases Int.lt_or_le (Lib.indexByte s.data.toList 10) 0 with h2 | h2
          · exact absurd (hg.trans (by rw [hc])) (Lib.indexByte_none (by omega) j)
          · exact h2
        clear hg hc
        go_wp2
        go_ret
        exact ⟨ret_b (by rw [hr.out]; rfl), rfl⟩
      · have hq : ((((s[j]'hlt).toNat : Nat) : Int) == 10) = false := by
          rw [beq_eq_false_iff_ne]
          intro e
          exact hc (UInt8.toNat_inj.1 (by show (s[j]'hlt).toNat = 10; omega))
        have hno2 : Hid (∀ q, q < j + 1 → s.data.toList[q]? ≠ some 10) := by
          intro q hq2
          by_cases e : q = j
          · subst e; rw [hg]; exact fun e => hc (Option.some.inj e)
          · exact hno.out q (by omega)
        clear hg hc
        go_wp2
        go_round
        case rel => exact ⟨j + 1, by omega, by go_num, hno2⟩
        case measure => (simp [intOf]; try omega)
    · have hr : Hid (decide (0 ≤ Lib.indexByte s.data.toList 10) = false) := by
        refine decide_eq_false fun h => ?_
        obtain ⟨o, ho⟩ : ∃ o : Nat, Lib.indexByte s.data.toList 10 = o := ⟨(Lib.indexByte s.data.toList 10).toNat, by omega⟩
        have h1 := (Lib.indexByte_some ho).1
        have h2 := (List.getElem?_eq_some_iff.1 h1).1
        have h3 : s.data.toList.length = s.size := tl_len s
        exact hno.out o (by omega) h1
      go_wp2
      go_ret
      exact ⟨ret_b (by rw [hr.out]; rfl), rfl⟩
set_option maxRecDepth 100000 in
set_option maxHeartbeats 4000000 in
theorem shaped_any (d : Nat) : ∀ (k n : Int) (s : ByteArray) (a : List ExprV) (ao : Option Addr) (cap : Nat) (w : World) (text each : Bool), ExAt w d (.mk k n s a) (encX k n s ao a.length cap) →
    Calls Tryz.prog 82 #[.agg #[.int .i64 k, .int .i64 n, .string s, .slice ao a.length cap], .bool text, .bool each] w fun e w' => e = .returned (.bool (shE (.mk k n s a) text each)) ∧ Below w.heap.size w w' := by
  induction d with
  | zero => intro _ _ _ _ _ _ _ _ _ h; exact h.elim
  | succ d ih =>
    intro k n s a ao cap w text each h
    have IH := hide ih
    clear ih
    obtain ⟨ao', cap', he, hk, hn, hs, ha, hkids⟩ := h
    obtain ⟨rfl, rfl⟩ : ao = ao' ∧ cap = cap' := by simp [encX] at he; exact ⟨he.1, he.2⟩
    clear he
    have hk2 := hkids.mono (E' := ExAt (boxX w k n s ao a.length cap) d) (fun x q hq => hq.later (box_below w k n s ao a.length cap) (Nat.le_refl _)) (box_below w k n s ao a.length cap) (Nat.le_refl _)
    have HK := hide hk2
    obtain ⟨c0, c1, c2, c3⟩ := box_cells w k n s ao a.length cap
    have HB1 := hide (box_below w k n s ao a.length cap)
    have HNE := fun w' => hide (noEnd_any s w' hs)
    clear hkids hk2
    unfold maxLen at ha hs
    by_cases h10 : 1 ≤ k ∧ k ≤ 10
    · go_enter Tryz.func82, Tryz.ntmps82
      go_upto_block 0 with (fail)
      go_cut [7, 8, 9, 10, 11] (fun nv sv kv ov iv wc => ∃ (nb ib o : Bool) (c : Nat), nv = .bool nb ∧ sv = .bool (sOk k s) ∧ kv = .int .i64 c ∧ ov = .bool o ∧ iv = .bool ib ∧ (nb && ib) = nOk k n each ∧ c ≤ 2 ∧ kidsOf k = List.replicate c o ∧ wc = boxX w k n s ao a.length cap)
      case first =>
        obtain rfl | rfl | rfl | rfl | rfl | rfl | rfl | rfl | rfl | rfl : k = 1 ∨ k = 2 ∨ k = 3 ∨ k = 4 ∨ k = 5 ∨ k = 6 ∨ k = 7 ∨ k = 8 ∨ k = 9 ∨ k = 10 := by omega
        all_goals clear hk h10 IH HK
        · go_wp2
          all_goals
            go_meet
            exact ⟨_, _, _, _, rfl, congrArg Value.bool (by simp [sOk]), rfl, rfl, rfl, by simp [nOk], by decide, by decide, rfl⟩
        · go_wp2
          all_goals
            go_meet
            exact ⟨_, _, _, _, rfl, congrArg Value.bool (by simp [sOk]), rfl, rfl, rfl, by simp [nOk], by decide, by decide, rfl⟩
        · go_wp2
          all_goals
            go_meet
            refine ⟨_, _, _, _, rfl, congrArg Value.bool ?_, rfl, rfl, rfl, ?_, by decide, by decide, rfl⟩
            · simp [sOk]
            · first
                | (simp [nOk]; done)
                | (simp [nOk]; omega)
        · have HS4 := sOk_4 s
          by_cases h20 : s.size ≤ 20
          · have e20 : decide ((s.size : Int) ≤ 20) = true := by simp; omega
            obtain ⟨cb, hcb⟩ : ∃ cb, decide (0 ≤ Lib.indexByte s.data.toList 10) = cb := ⟨_, rfl⟩
            rw [hcb] at HNE HS4
            have hv : Hid (sOk 4 s = !cb) := by show _ = _; rw [HS4]; simp [h20]
            clear hcb HS4
            go_wp2_with fail
            refine (HNE _).out.mono ?_
            rintro e w5 ⟨rfl, rfl⟩
            go_wp2
            go_meet
            exact ⟨_, _, _, _, rfl, congrArg Value.bool (by rw [hv.out]), rfl, rfl, rfl, by simp [nOk], by decide, by decide, rfl⟩
          · have e20 : decide ((s.size : Int) ≤ 20) = false := by simp; omega
            have hv : Hid (sOk 4 s = false) := by show _ = _; rw [HS4]; simp [h20]
            clear HS4
            go_wp2
            go_meet
            exact ⟨_, _, _, _, rfl, congrArg Value.bool (by rw [hv.out]), rfl, rfl, rfl, by simp [nOk], by decide, by decide, rfl⟩
        · go_wp2
          all_goals
            go_meet
            exact ⟨_, _, _, _, rfl, congrArg Value.bool (by simp [sOk]), rfl, rfl, rfl, by simp [nOk], by decide, by decide, rfl⟩
        · go_wp2
          all_goals
            go_meet
            refine ⟨_, _, _, _, rfl, congrArg Value.bool ?_, rfl, rfl, rfl, ?_, by decide, by decide, rfl⟩
            · simp [sOk]
            · first
                | (simp [nOk]; done)
                | (simp [nOk]; omega)
        · go_wp2
          all_goals
            go_meet
            refine ⟨_, _, _, _, rfl, congrArg Value.bool ?_, rfl, rfl, rfl, ?_, by decide, by decide, rfl⟩
            · simp [sOk]
            · first
                | (simp [nOk]; done)
                | (simp [nOk]; omega)
        · go_wp2
          all_goals
            go_meet
            exact ⟨_, _, _, _, rfl, congrArg Value.bool (by simp [sOk]), rfl, rfl, rfl, by simp [nOk], by decide, by decide, rfl⟩
        · go_wp2
          all_goals
            go_meet
            exact ⟨_, _, _, _, rfl, congrArg Value.bool (by simp [sOk]), rfl, rfl, rfl, by simp [nOk], by decide, by decide, rfl⟩
        · go_wp2
          all_goals
            go_meet
            exact ⟨_, _, _, _, rfl, congrArg Value.bool (by simp [sOk]), rfl, rfl, rfl, by simp [nOk], by decide, by decide, rfl⟩
      case rest =>
        obtain ⟨nb, ib, o, c, rfl, rfl, rfl, rfl, rfl, hnb, hc2, hks, rfl⟩ := hcut
        have HBT := HB1
        have hr : shE (.mk k n s a) text each = (nOk k n each && (sOk k s && ((decide (k ≤ 6) == text) && (a.length == (kidsOf k).length && shL a (kidsOf k) each)))) := by
          rw [shE, decide_eq_true h10]; rfl
        rw [← hnb, hks, List.length_replicate] at hr
        have HR := hide hr
        generalize sOk k s = sb at *
        clear hr hnb hks h10 hk hn HNE
        have fin : ∀ b : Bool, Hid (shE (.mk k n s a) text each = false) → True := fun _ _ => trivial
        clear fin
        cases nb
        · go_wp2
          go_ret
          exact ⟨ret_b (by rw [HR.out]; rfl), HBT.out⟩
        · cases sb
          · go_wp2
            go_ret
            exact ⟨ret_b (by rw [HR.out]; simp), HBT.out⟩
          · cases ib
            · go_wp2
              go_ret
              exact ⟨ret_b (by rw [HR.out]; rfl), HBT.out⟩
            · by_cases hlen : a.length = c
              · subst hlen
                obtain ⟨tv, e6⟩ : ∃ tv, decide (k ≤ 6) = tv := ⟨_, rfl⟩
                rw [e6] at HR
                by_cases ht : text = tv
                · subst ht
                  have hr2 : shL a (List.replicate a.length o) each = shE (.mk k n s a) text each := by rw [HR.out]; simp
                  generalize hre : shE (.mk k n s a) text each = r at *
                  have HRE := hide hre
                  have HR2 := hide hr2
                  clear hre hr2 HR
                  go_wp2
                  clear e6
                  go_loopw [12] (fun i wr => ∃ j : Nat, j ≤ a.length ∧ i = .int .i64 j ∧ Hid (shL (a.drop j) (List.replicate (a.length - j) o) each = r) ∧ Below (boxX w k n s ao a.length cap).heap.size (boxX w k n s ao a.length cap) wr) (fun i _ => a.length - (intOf i).toNat)
                  case atStart => exact ⟨0, by omega, rfl, HR2.out, Below.refl _ _⟩
                  case round =>
                    obtain ⟨j, hj, rfl, hacc, hbw⟩ := hrel
                    have d3 := cell_later hbw c3
                    by_cases hjl : j < a.length
                    · have hja : j < a.length := by omega
                      obtain ⟨b, off, d', k', n', s', l', ao', cap', rfl, hbs, rfl, hx, hex, g0, g1, g2, g3⟩ := (HK.out.mono (E' := ExAt wr d) (fun x q hq => hq.later hbw (Nat.le_refl _)) hbw (Nat.le_refl _)).kid hja
                      have hst : Hid (r = (shE (.mk k' n' s' l') o each && shL (a.drop (j + 1)) (List.replicate (a.length - (j + 1)) o) each)) := by
                        show _ = _
                        rw [← hacc.out, drop_cons hx, show a.length - j = a.length - (j + 1) + 1 by omega, List.replicate_succ, shL]
                      have HX := hide (IH.out k' n' s' l' ao' cap' wr o each hex)
                      generalize shE (.mk k' n' s' l') o each = q at *
                      have f1 : (0 : Int) ≤ (j : Int) ∧ (j : Int) < (a.length : Int) := by omega
                      obtain ⟨f1, f2⟩ := f1
                      have HBW := hide hbw
                      clear hx hex hacc hbw
                      go_wp2_with fail
                      refine HX.out.mono ?_
                      rintro e w6 ⟨rfl, b6⟩
                      have HB6 := hide (HBW.out.trans (b6.mono HBW.out.size))
                      clear HX b6
                      cases q
                      · go_wp2
                        go_ret
                        exact ⟨ret_b (by rw [HRE.out, hst.out]; rfl), HB1.out.trans (HB6.out.mono HB1.out.size)⟩
                      · go_wp2
                        go_roundw
                        case rel => exact ⟨j + 1, by omega, by go_num, by rw [hst.out]; rfl, HB6.out⟩
                        case measure => (simp [intOf]; try omega)
                    · have hr3 : r = true := by rw [← hacc.out, List.drop_eq_nil_of_le (by omega)]; rfl
                      have HR3 := hide hr3
                      have HBE := hide (HB1.out.trans (hbw.mono HB1.out.size))
                      clear hr3
                      go_wp2
                      go_ret
                      exact ⟨ret_b (by rw [HRE.out, HR3.out]), HBE.out⟩
                · have hr2 : shE (.mk k n s a) text each = false := by
                    rw [HR.out]
                    have : (tv == text) = false := by simpa using fun e => ht e.symm
                    simp [this]
                  have HR2 := hide hr2
                  have e7 : (text == tv) = false := by simpa using ht
                  clear hr2 HR
                  go_wp2
                  go_ret
                  exact ⟨ret_b (by rw [HR2.out]), HBT.out⟩
              · have hr2 : shE (.mk k n s a) text each = false := by rw [HR.out]; simp [hlen]
                have HR2 := hide hr2
                have e1 : ((a.length : Int) != (c : Int)) = true := by simp; omega
                clear hr2
                go_wp2
                go_ret
                exact ⟨ret_b (by rw [HR2.out]), HBT.out⟩
    · have hr : shE (.mk k n s a) text each = false := by rw [shE, decide_eq_false h10]; rfl
      have HR := hide hr
      have q1 : ¬ k = 1 := by omega
      have q2 : ¬ k = 2 := by omega
      have q3 : ¬ k = 3 := by omega
      have q4 : ¬ k = 4 := by omega
      have q5 : ¬ k = 5 := by omega
      have q6 : ¬ k = 6 := by omega
      have q7 : ¬ k = 7 := by omega
      have q8 : ¬ k = 8 := by omega
      have q9 : ¬ k = 9 := by omega
      have q10 : ¬ k = 10 := by omega
      clear hr h10
      go_enter Tryz.func82, Tryz.ntmps82
      go_wp2
      go_ret
      exact ⟨ret_b (by rw [HR.out]), HB1.out⟩
end Go.Proofs.YtgeedjlbajmdkaaGreatDoor
