/- Expressions: the reference's numbers (ref.Int). -/
import Derived.Test.YtgeedjlbajmdkaaGreatDoorExpr9
set_option linter.unusedSimpArgs false
set_option linter.unusedVariables false
namespace Go.Proofs.YtgeedjlbajmdkaaGreatDoor
open Go.RowKit Go.ChangeShapes Go.WideShapes Go.ChangeAt

set_option maxRecDepth 100000 in
set_option maxHeartbeats 1000000 in
theorem RefInt_any (line it : ByteArray) (each : Bool) (hline : line.size ≤ 1000) (hwl : (wordsB line).length ≤ 2000) (hB : Hid (∀ e : ExprV, shE e true each = true → e.nodes ≤ 1000 → (strE e line it (wordsB line)).size ≤ 1000000)) (d : Nat) : ∀ (k n : Int) (s : ByteArray) (a : List ExprV) (ao : Option Addr) (cap : Nat) (w : World), ExAt w d (.mk k n s a) (encX k n s ao a.length cap) →
    shE (.mk k n s a) false each = true → (ExprV.mk k n s a).nodes ≤ 1000 →
    Calls Tryz.prog 64 #[.agg #[.int .i64 k, .int .i64 n, .string s, .slice ao a.length cap], .string line, .string it] w fun e w' => e = .returned (.int .i64 (intE (.mk k n s a) line it (wordsB line))) ∧ Below w.heap.size w w' := by
  induction d with
  | zero => intro _ _ _ _ _ _ _ h; exact h.elim
  | succ d ih =>
    intro k n s a ao cap w h hsh hnd
    have HND := hide hnd
    clear hnd
    have IH := hide ih
    clear ih
    have hstr := RefStr_any line it each hline hwl hB d
    have HSTR := hide hstr
    clear hstr
    obtain ⟨ao', cap', he, hk, hn, hs, ha, hkids⟩ := h
    obtain ⟨rfl, rfl⟩ : ao = ao' ∧ cap = cap' := by simp [encX] at he; exact ⟨he.1, he.2⟩
    clear he
    obtain ⟨p1, p2, p3, p4, p5, p6⟩ := shE_parts hsh
    have p4' : 7 ≤ k := by have : ¬ k ≤ 6 := by simpa using p4
                           omega
    have hb1 := box_below w k n s ao a.length cap
    obtain ⟨c0, c1, c2, c3⟩ := box_cells w k n s ao a.length cap
    have HE : Hid (intE (.mk k n s a) line it (wordsB line) = intK k n (wordsB line) (strL a line it (wordsB line)) (intL a line it (wordsB line))) := by show _ = _; rw [intE]
    have HB := hide hb1
    have HK := hide (hkids.mono (E' := ExAt (boxX w k n s ao a.length cap) d) (fun x q hq => hq.later hb1 (Nat.le_refl _)) hb1 (Nat.le_refl _))
    have P6 := hide p6
    have P5 := hide p5
    clear hsh hkids hb1 p2 p3 p4 p5 p6
    unfold maxLen at ha hs
    obtain rfl | rfl | rfl | rfl : k = 7 ∨ k = 8 ∨ k = 9 ∨ k = 10 := by omega
    · clear P5 P6 HSTR IH HK
      go_enter Tryz.func64, Tryz.ntmps64
      go_wp2
      go_ret
      exact ⟨by rw [HE.out]; rfl, HB.out⟩
    · have hl1 : a.length = 1 := P5.out
      obtain ⟨x0, rfl⟩ : ∃ x0, a = [x0] := by
        match a, hl1 with
        | [x], _ => exact ⟨x, rfl⟩
      obtain ⟨b, off, d', k', n', s', l', ao', cap', rfl, hbs, rfl, hx, hex, g0, g1, g2, g3⟩ := HK.out.kid (i := 0) (by simp)
      obtain rfl : x0 = .mk k' n' s' l' := by simpa using hx
      have hsh0 : shE (.mk k' n' s' l') true each = true := by
        have := P6.out
        rw [show kidsOf 8 = [true] from rfl, shL] at this
        simp only [Bool.and_eq_true] at this
        exact this.1
      have hnk : (ExprV.mk k' n' s' l').nodes ≤ 1000 := by have := HND.out; unfold ExprV.nodes ExprV.nodesL ExprV.nodesL at this; omega
      have hz := hB.out _ hsh0 hnk
      have HX := hide (HSTR.out k' n' s' l' ao' cap' (boxX w 8 n s (some ⟨b, off, none⟩) [ExprV.mk k' n' s' l'].length cap) hex hsh0 hnk)
      have HV : Hid (intE (.mk 8 n s [.mk k' n' s' l']) line it (wordsB line) = ((strE (.mk k' n' s' l') line it (wordsB line)).size : Int)) := by
        show _ = _
        rw [HE.out]; rfl
      simp only [Nat.zero_mul, Nat.add_zero] at g0 g1 g2 g3
      clear hx hex hsh0 hnk P5 P6 HSTR IH HK HE
      simp only [List.length_cons, List.length_nil, Nat.zero_add] at g0 g1 g2 g3 c0 c1 c2 c3 HX HB
      generalize strE (.mk k' n' s' l') line it (wordsB line) = xs at *
      go_enter Tryz.func64, Tryz.ntmps64
      go_wp2_with fail
      refine HX.out.mono ?_
      rintro e w3 ⟨rfl, b3⟩
      have HB3 := hide (HB.out.trans (b3.mono HB.out.size))
      clear HX b3
      go_wp2
      go_ret
      exact ⟨by rw [HV.out]; rfl, HB3.out⟩
    · clear P5 P6 HSTR IH HK
      go_enter Tryz.func64, Tryz.ntmps64
      go_wp2_with fail
      refine (RefWords_any line _ (by omega)).mono ?_
      rintro e w3 ⟨v, rfl, o3, b3⟩
      have HB3 := hide (HB.out.trans (b3.mono HB.out.size))
      obtain ⟨⟨a3, q3, rfl⟩, _⟩ := id o3
      clear o3 b3
      go_wp2
      go_ret
      exact ⟨by rw [HE.out]; rfl, HB3.out⟩
    · have hl2 : a.length = 2 := P5.out
      obtain ⟨x0, x1, rfl⟩ : ∃ x0 x1, a = [x0, x1] := by
        match a, hl2 with
        | [x, y], _ => exact ⟨x, y, rfl⟩
      obtain ⟨b, off, d', k0, n0, s0, l0, ao0, cap0, rfl, hbs, rfl, hx, hex, g0, g1, g2, g3⟩ := HK.out.kid (i := 0) (by simp)
      obtain ⟨b', off', d'', k1, n1, s1, l1, ao1, cap1, eb, hbs', ed, hx', hex', u0, u1, u2, u3⟩ := HK.out.kid (i := 1) (by simp)
      cases eb
      cases ed
      obtain rfl : x0 = .mk k0 n0 s0 l0 := by simpa using hx
      obtain rfl : x1 = .mk k1 n1 s1 l1 := by simpa using hx'
      have hsh0 : shE (.mk k0 n0 s0 l0) false each = true ∧ shE (.mk k1 n1 s1 l1) false each = true := by
        have := P6.out
        rw [show kidsOf 10 = [false, false] from rfl, shL, shL] at this
        simp only [Bool.and_eq_true] at this
        exact ⟨this.1, this.2.1⟩
      have HV : Hid (intE (.mk 10 n s [.mk k0 n0 s0 l0, .mk k1 n1 s1 l1]) line it (wordsB line) = IntKind.i64.wrap (intE (.mk k0 n0 s0 l0) line it (wordsB line) + intE (.mk k1 n1 s1 l1) line it (wordsB line))) := by
        show _ = _
        rw [HE.out]; rfl
      have hnk : (ExprV.mk k0 n0 s0 l0).nodes ≤ 1000 ∧ (ExprV.mk k1 n1 s1 l1).nodes ≤ 1000 := by
        have := HND.out
        unfold ExprV.nodes ExprV.nodesL ExprV.nodesL ExprV.nodesL at this
        omega
      have I0 := fun w' (bw : Below (boxX w 10 n s (some ⟨b, off, none⟩) [ExprV.mk k0 n0 s0 l0, ExprV.mk k1 n1 s1 l1].length cap).heap.size (boxX w 10 n s (some ⟨b, off, none⟩) [ExprV.mk k0 n0 s0 l0, ExprV.mk k1 n1 s1 l1].length cap) w') =>
        IH.out k0 n0 s0 l0 ao0 cap0 w' (hex.later bw (Nat.le_refl _)) hsh0.1 hnk.1
      have I1 := fun w' (bw : Below (boxX w 10 n s (some ⟨b, off, none⟩) [ExprV.mk k0 n0 s0 l0, ExprV.mk k1 n1 s1 l1].length cap).heap.size (boxX w 10 n s (some ⟨b, off, none⟩) [ExprV.mk k0 n0 s0 l0, ExprV.mk k1 n1 s1 l1].length cap) w') =>
        IH.out k1 n1 s1 l1 ao1 cap1 w' (hex'.later bw (Nat.le_refl _)) hsh0.2 hnk.2
      simp only [Nat.zero_mul, Nat.add_zero, Nat.one_mul] at g0 g1 g2 g3 u0 u1 u2 u3
      simp only [List.length_cons, List.length_nil, Nat.zero_add, Nat.reduceAdd] at g0 g1 g2 g3 u0 u1 u2 u3 c0 c1 c2 c3 I0 I1 HB
      have HI0 := hide I0
      have HI1 := hide I1
      generalize intE (.mk k0 n0 s0 l0) line it (wordsB line) = xs at *
      generalize intE (.mk k1 n1 s1 l1) line it (wordsB line) = ys at *
      simp only [boxX] at c3 g0 g1 g2 g3 u0 u1 u2 u3 HI0 HI1 HB
      clear hnk hx hx' hex hex' hsh0 P5 P6 HSTR IH HK HE I0 I1 hl2 hbs hbs'
      go_enter Tryz.func64, Tryz.ntmps64
      go_upto_region 9 with (fail)
      generalize w.alloc (.cells #[.int .i64 10, .int .i64 n, .string s, .slice (some ⟨b, off, none⟩) 2 cap] 67) = W2 at *
      clear c0 c1 c2
      have hwf : Below W2.heap.size W2 W2.drew := (Below.refl _ _).drew
      go_region_held3 (fun w' => Below W2.heap.size W2 w' ∧ w'.cell? ⟨w.heap.size, 3, none⟩ = some (.slice (some ⟨b, off, none⟩) 2 cap) ∧ w'.cell? ⟨b, off, none⟩ = some (.int .i64 k0) ∧ w'.cell? ⟨b, off + 1, none⟩ = some (.int .i64 n0) ∧ w'.cell? ⟨b, off + 2, none⟩ = some (.string s0) ∧ w'.cell? ⟨b, off + 3, none⟩ = some (.slice ao0 l0.length cap0) ∧ w'.cell? ⟨b, off + 4, none⟩ = some (.int .i64 k1) ∧ w'.cell? ⟨b, off + 4 + 1, none⟩ = some (.int .i64 n1) ∧ w'.cell? ⟨b, off + 4 + 2, none⟩ = some (.string s1) ∧ w'.cell? ⟨b, off + 4 + 3, none⟩ = some (.slice ao1 l1.length cap1))
        (first
          | exact ⟨hwf, c3, g0, g1, g2, g3, u0, u1, u2, u3⟩
          | (have h := (by assumption : Below W2.heap.size W2 _ ∧ _ ∧ _); exact ⟨h.1.trans (b3.mono h.1.size), cell_later b3 h.2.1, cell_later b3 h.2.2.1, cell_later b3 h.2.2.2.1, cell_later b3 h.2.2.2.2.1, cell_later b3 h.2.2.2.2.2.1, cell_later b3 h.2.2.2.2.2.2.1, cell_later b3 h.2.2.2.2.2.2.2.1, cell_later b3 h.2.2.2.2.2.2.2.2.1, cell_later b3 h.2.2.2.2.2.2.2.2.2⟩)
          | go_keep)
        (first
          | (go_at_call_of 64 (Value.agg #[Value.int IntKind.i64 k0, Value.int IntKind.i64 n0, Value.string s0, Value.slice ao0 l0.length cap0]); have h := (by assumption : Below W2.heap.size W2 _ ∧ _ ∧ _); refine (HI0.out _ h.1).mono ?_; clear h; rintro e w3 ⟨rfl, b3⟩)
          | (go_at_call_of 64 (Value.agg #[Value.int IntKind.i64 k1, Value.int IntKind.i64 n1, Value.string s1, Value.slice ao1 l1.length cap1]); have h := (by assumption : Below W2.heap.size W2 _ ∧ _ ∧ _); refine (HI1.out _ h.1).mono ?_; clear h; rintro e w3 ⟨rfl, b3⟩))
      all_goals
        have h := (by assumption : Below W2.heap.size W2 _ ∧ _ ∧ _)
        have HBE := hide (HB.out.trans (h.1.mono HB.out.size))
        clear h
        go_wp2
        go_ret
        exact ⟨by rw [HV.out]; rfl, HBE.out⟩
end Go.Proofs.YtgeedjlbajmdkaaGreatDoor
