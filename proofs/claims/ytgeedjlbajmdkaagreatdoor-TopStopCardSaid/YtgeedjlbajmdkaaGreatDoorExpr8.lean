/- Expressions: what a number is (expr.Int). -/
import Derived.Test.YtgeedjlbajmdkaaGreatDoorExpr7
set_option linter.unusedSimpArgs false
set_option linter.unusedVariables false
namespace Go.Proofs.YtgeedjlbajmdkaaGreatDoor
open Go.RowKit Go.ChangeShapes Go.WideShapes Go.ChangeAt

def intK (k n : Int) (ws xs : List ByteArray) (is : List Int) : Int :=
  if k = 7 then n else if k = 8 then ((xs.getD 0 ⟨#[]⟩).size : Int) else if k = 9 then (ws.length : Int) else if k = 10 then IntKind.i64.wrap (is.getD 0 0 + is.getD 1 0) else 0
mutual
def intE : ExprV → ByteArray → ByteArray → List ByteArray → Int
  | .mk k n _ a, line, it, ws => intK k n ws (strL a line it ws) (intL a line it ws)
def intL : List ExprV → ByteArray → ByteArray → List ByteArray → List Int
  | [], _, _, _ => []
  | x :: r, line, it, ws => intE x line it ws :: intL r line it ws
end
set_option maxRecDepth 100000 in
set_option maxHeartbeats 1000000 in
theorem Int_any (line it : ByteArray) (wo : Option Addr) (wcap : Nat) (ws : List ByteArray) (each : Bool) (hws : ws.length ≤ 1000) (hB : Hid (∀ e : ExprV, shE e true each = true → e.nodes ≤ 1000 → (strE e line it ws).size ≤ 1000000)) (d : Nat) : ∀ (k n : Int) (s : ByteArray) (a : List ExprV) (ao : Option Addr) (cap : Nat) (w : World), ExAt w d (.mk k n s a) (encX k n s ao a.length cap) →
    shE (.mk k n s a) false each = true → (ExprV.mk k n s a).nodes ≤ 1000 → Sl 1 encS w wo ws →
    Calls Tryz.prog 101 #[.agg #[.int .i64 k, .int .i64 n, .string s, .slice ao a.length cap], .agg #[.string line, .string it, .slice wo ws.length wcap]] w fun e w' => e = .returned (.int .i64 (intE (.mk k n s a) line it ws)) ∧ Below w.heap.size w w' := by
  induction d with
  | zero => intro _ _ _ _ _ _ _ h; exact h.elim
  | succ d ih =>
    intro k n s a ao cap w h hsh hnd hsl
    have HND := hide hnd
    clear hnd
    have IH := hide ih
    clear ih
    have hstr := Str_any line it wo wcap ws each hws hB d
    have HSTR := hide hstr
    clear hstr
    obtain ⟨ao', cap', he, hk, hn, hs, ha, hkids⟩ := h
    obtain ⟨rfl, rfl⟩ : ao = ao' ∧ cap = cap' := by simp [encX] at he; exact ⟨he.1, he.2⟩
    clear he
    obtain ⟨p1, p2, p3, p4, p5, p6⟩ := shE_parts hsh
    have p4' : 7 ≤ k := by have : ¬ k ≤ 6 := by simpa using p4
                           omega
    have hb1 := box_below w k n s ao a.length cap
    have hb2 := boxR_below (boxX w k n s ao a.length cap) line it wo ws.length wcap
    have hb12 := hb1.trans (hb2.mono hb1.size)
    obtain ⟨c0, c1, c2, c3⟩ := box_cells w k n s ao a.length cap
    have c0 := cell_later hb2 c0
    have c1 := cell_later hb2 c1
    have c2 := cell_later hb2 c2
    have c3 := cell_later hb2 c3
    obtain ⟨r0, r1, r2⟩ := boxR_cells (boxX w k n s ao a.length cap) line it wo ws.length wcap
    have hs1 : (boxX w k n s ao a.length cap).heap.size = w.heap.size + 1 := by simp
    rw [hs1] at r0 r1 r2
    have hsl2 := hsl.later hb12 (Nat.le_refl _)
    have HE : Hid (intE (.mk k n s a) line it ws = intK k n ws (strL a line it ws) (intL a line it ws)) := by show _ = _; rw [intE]
    have HB := hide hb12
    have HK := hide (hkids.mono (E' := ExAt (boxR (boxX w k n s ao a.length cap) line it wo ws.length wcap) d) (fun x q hq => hq.later hb12 (Nat.le_refl _)) hb12 (Nat.le_refl _))
    have HSL := hide hsl2
    have P6 := hide p6
    have P5 := hide p5
    clear hsh hkids hs1 hb1 hb2 hb12 hsl hsl2 p2 p3 p4 p5 p6
    unfold maxLen at ha hs
    obtain rfl | rfl | rfl | rfl : k = 7 ∨ k = 8 ∨ k = 9 ∨ k = 10 := by omega
    · clear P5 P6 HSTR IH HK
      go_enter Tryz.func101, Tryz.ntmps101
      go_wp2
      go_ret
      exact ⟨by rw [HE.out]; rfl, HB.out⟩
    · have hl1 : a.length = 1 := P5.out
      obtain ⟨x0, rfl⟩ : ∃ x0, a = [x0] := by
        match a, hl1 with
        | [x], _ => exact ⟨x, rfl⟩
      obtain ⟨b, off, d', k', n', s', l', ao', cap', rfl, hbs, rfl, hx, hex, g0, g1, g2, g3⟩ := HK.out.kid (i := 0) (by simp)
      obtain rfl : x0 = .mk k' n' s' l' := by simpa using hx
      have hsh0 : shE (.mk k' n' s' l') true each = true := by
        have := P6.out
        rw [show kidsOf 8 = [true] from rfl, shL] at this
        simp only [Bool.and_eq_true] at this
        exact this.1
      have hbd : Below w.heap.size w ((boxR (boxX w 8 n s (some ⟨b, off, none⟩) [ExprV.mk k' n' s' l'].length cap) line it wo ws.length wcap).drew) := HB.out.drew
      have HX := hide (HSTR.out k' n' s' l' ao' cap' ((boxR (boxX w 8 n s (some ⟨b, off, none⟩) [ExprV.mk k' n' s' l'].length cap) line it wo ws.length wcap).drew) (hex.later ((Below.refl _ _).drew) (Nat.le_refl _)) hsh0 (by have := HND.out; unfold ExprV.nodes ExprV.nodesL ExprV.nodesL at this; omega) (HSL.out.later ((Below.refl _ _).drew) (Nat.le_refl _)))
      have HV : Hid (intE (.mk 8 n s [.mk k' n' s' l']) line it ws = ((strE (.mk k' n' s' l') line it ws).size : Int)) := by
        show _ = _
        rw [HE.out]; rfl
      have hz := hB.out _ hsh0 (by have := HND.out; unfold ExprV.nodes ExprV.nodesL ExprV.nodesL at this; omega)
      simp only [Nat.zero_mul, Nat.add_zero] at g0 g1 g2 g3
      have HBD := hide hbd
      clear hx hex hsh0 hbd P5 P6 HSTR IH HK HE
      simp only [List.length_cons, List.length_nil, Nat.zero_add] at g0 g1 g2 g3 c0 c1 c2 c3 r0 r1 r2 HX HBD
      generalize strE (.mk k' n' s' l') line it ws = xs at *
      go_enter Tryz.func101, Tryz.ntmps101
      go_upto_region 5 with (fail)
      refine still_tail 5 (by kernel_rfl) (by kernel_rfl) ?_
      simp only [List.take_succ_cons, List.take_zero, List.drop_succ_cons, List.drop_zero]
      iterate 5 still_step
      refine wpStill_nil ?_
      go_wp2_with fail
      refine HX.out.mono ?_
      rintro e w3 ⟨rfl, b3⟩
      have HB3 := hide (HBD.out.trans (b3.mono HBD.out.size))
      clear HX b3
      go_wp2
      go_ret
      exact ⟨by rw [HV.out]; rfl, HB3.out⟩
    · clear P5 P6 HSTR IH HK
      go_enter Tryz.func101, Tryz.ntmps101
      go_wp2
      go_ret
      exact ⟨by rw [HE.out]; rfl, HB.out⟩
    · have hl2 : a.length = 2 := P5.out
      obtain ⟨x0, x1, rfl⟩ : ∃ x0 x1, a = [x0, x1] := by
        match a, hl2 with
        | [x, y], _ => exact ⟨x, y, rfl⟩
      obtain ⟨b, off, d', k0, n0, s0, l0, ao0, cap0, rfl, hbs, rfl, hx, hex, g0, g1, g2, g3⟩ := HK.out.kid (i := 0) (by simp)
      obtain ⟨b', off', d'', k1, n1, s1, l1, ao1, cap1, eb, hbs', ed, hx', hex', u0, u1, u2, u3⟩ := HK.out.kid (i := 1) (by simp)
      cases eb
      cases ed
      obtain rfl : x0 = .mk k0 n0 s0 l0 := by simpa using hx
      obtain rfl : x1 = .mk k1 n1 s1 l1 := by simpa using hx'
      have hsh0 : shE (.mk k0 n0 s0 l0) false each = true ∧ shE (.mk k1 n1 s1 l1) false each = true := by
        have := P6.out
        rw [show kidsOf 10 = [false, false] from rfl, shL, shL] at this
        simp only [Bool.and_eq_true] at this
        exact ⟨this.1, this.2.1⟩
      have HV : Hid (intE (.mk 10 n s [.mk k0 n0 s0 l0, .mk k1 n1 s1 l1]) line it ws = IntKind.i64.wrap (intE (.mk k0 n0 s0 l0) line it ws + intE (.mk k1 n1 s1 l1) line it ws)) := by
        show _ = _
        rw [HE.out]; rfl
      have hnk : (ExprV.mk k0 n0 s0 l0).nodes ≤ 1000 ∧ (ExprV.mk k1 n1 s1 l1).nodes ≤ 1000 := by
        have := HND.out
        unfold ExprV.nodes ExprV.nodesL ExprV.nodesL ExprV.nodesL at this
        omega
      have I0 := fun w' (bw : Below (boxR (boxX w 10 n s (some ⟨b, off, none⟩) [ExprV.mk k0 n0 s0 l0, ExprV.mk k1 n1 s1 l1].length cap) line it wo ws.length wcap).heap.size (boxR (boxX w 10 n s (some ⟨b, off, none⟩) [ExprV.mk k0 n0 s0 l0, ExprV.mk k1 n1 s1 l1].length cap) line it wo ws.length wcap) w') =>
        IH.out k0 n0 s0 l0 ao0 cap0 w' (hex.later bw (Nat.le_refl _)) hsh0.1 hnk.1 (HSL.out.later bw (Nat.le_refl _))
      have I1 := fun w' (bw : Below (boxR (boxX w 10 n s (some ⟨b, off, none⟩) [ExprV.mk k0 n0 s0 l0, ExprV.mk k1 n1 s1 l1].length cap) line it wo ws.length wcap).heap.size (boxR (boxX w 10 n s (some ⟨b, off, none⟩) [ExprV.mk k0 n0 s0 l0, ExprV.mk k1 n1 s1 l1].length cap) line it wo ws.length wcap) w') =>
        IH.out k1 n1 s1 l1 ao1 cap1 w' (hex'.later bw (Nat.le_refl _)) hsh0.2 hnk.2 (HSL.out.later bw (Nat.le_refl _))
      simp only [Nat.zero_mul, Nat.add_zero, Nat.one_mul] at g0 g1 g2 g3 u0 u1 u2 u3
      simp only [List.length_cons, List.length_nil, Nat.zero_add, Nat.reduceAdd] at g0 g1 g2 g3 u0 u1 u2 u3 c0 c1 c2 c3 r0 r1 r2 I0 I1 HB
      have HI0 := hide I0
      have HI1 := hide I1
      generalize intE (.mk k0 n0 s0 l0) line it ws = xs at *
      generalize intE (.mk k1 n1 s1 l1) line it ws = ys at *
      simp only [boxR, boxX] at c3 g0 g1 g2 g3 u0 u1 u2 u3 r0 r1 r2 HI0 HI1 HB
      clear hnk hx hx' hex hex' hsh0 P5 P6 HSTR IH HK HE I0 I1 hl2 HSL hbs hbs'
      go_enter Tryz.func101, Tryz.ntmps101
      go_upto_region 9 with (fail)
      generalize (w.alloc (.cells #[.int .i64 10, .int .i64 n, .string s, .slice (some ⟨b, off, none⟩) 2 cap] 67)).alloc (.cells #[.string line, .string it, .slice wo ws.length wcap] 109) = W2 at *
      clear c0 c1 c2
      have hwf : Below W2.heap.size W2 W2.drew := (Below.refl _ _).drew
      go_region_held3 (fun w' => Below W2.heap.size W2 w' ∧ w'.cell? ⟨w.heap.size, 3, none⟩ = some (.slice (some ⟨b, off, none⟩) 2 cap) ∧ w'.cell? ⟨b, off, none⟩ = some (.int .i64 k0) ∧ w'.cell? ⟨b, off + 1, none⟩ = some (.int .i64 n0) ∧ w'.cell? ⟨b, off + 2, none⟩ = some (.string s0) ∧ w'.cell? ⟨b, off + 3, none⟩ = some (.slice ao0 l0.length cap0) ∧ w'.cell? ⟨b, off + 4, none⟩ = some (.int .i64 k1) ∧ w'.cell? ⟨b, off + 4 + 1, none⟩ = some (.int .i64 n1) ∧ w'.cell? ⟨b, off + 4 + 2, none⟩ = some (.string s1) ∧ w'.cell? ⟨b, off + 4 + 3, none⟩ = some (.slice ao1 l1.length cap1) ∧ w'.cell? ⟨w.heap.size + 1, 0, none⟩ = some (.string line) ∧ w'.cell? ⟨w.heap.size + 1, 1, none⟩ = some (.string it) ∧ w'.cell? ⟨w.heap.size + 1, 2, none⟩ = some (.slice wo ws.length wcap))
        (first
          | exact ⟨hwf, c3, g0, g1, g2, g3, u0, u1, u2, u3, r0, r1, r2⟩
          | (have h := (by assumption : Below W2.heap.size W2 _ ∧ _ ∧ _); exact ⟨h.1.trans (b3.mono h.1.size), cell_later b3 h.2.1, cell_later b3 h.2.2.1, cell_later b3 h.2.2.2.1, cell_later b3 h.2.2.2.2.1, cell_later b3 h.2.2.2.2.2.1, cell_later b3 h.2.2.2.2.2.2.1, cell_later b3 h.2.2.2.2.2.2.2.1, cell_later b3 h.2.2.2.2.2.2.2.2.1, cell_later b3 h.2.2.2.2.2.2.2.2.2.1, cell_later b3 h.2.2.2.2.2.2.2.2.2.2.1, cell_later b3 h.2.2.2.2.2.2.2.2.2.2.2.1, cell_later b3 h.2.2.2.2.2.2.2.2.2.2.2.2⟩)
          | go_keep)
        (first
          | (go_at_call_of 101 (Value.agg #[Value.int IntKind.i64 k0, Value.int IntKind.i64 n0, Value.string s0, Value.slice ao0 l0.length cap0]); have h := (by assumption : Below W2.heap.size W2 _ ∧ _ ∧ _); refine (HI0.out _ h.1).mono ?_; clear h; rintro e w3 ⟨rfl, b3⟩)
          | (go_at_call_of 101 (Value.agg #[Value.int IntKind.i64 k1, Value.int IntKind.i64 n1, Value.string s1, Value.slice ao1 l1.length cap1]); have h := (by assumption : Below W2.heap.size W2 _ ∧ _ ∧ _); refine (HI1.out _ h.1).mono ?_; clear h; rintro e w3 ⟨rfl, b3⟩))
      all_goals
        have h := (by assumption : Below W2.heap.size W2 _ ∧ _ ∧ _)
        have HBE := hide (HB.out.trans (h.1.mono HB.out.size))
        clear h
        go_wp2
        go_ret
        exact ⟨by rw [HV.out]; rfl, HBE.out⟩
end Go.Proofs.YtgeedjlbajmdkaaGreatDoor
