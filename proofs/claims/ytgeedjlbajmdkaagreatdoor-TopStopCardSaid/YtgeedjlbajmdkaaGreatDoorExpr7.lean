/- Expressions: what a text is (expr.Str). -/
import Derived.Test.YtgeedjlbajmdkaaGreatDoorExpr6
import Derived.Deep.RegionHeld3
set_option linter.unusedSimpArgs false
set_option linter.unusedVariables false
namespace Go.Proofs.YtgeedjlbajmdkaaGreatDoor
open Go.RowKit Go.ChangeShapes Go.WideShapes Go.ChangeAt

/-- what a text is, of what its parts are -/
def strK (k n : Int) (s line it : ByteArray) (ws xs : List ByteArray) : ByteArray :=
  if k = 1 then it else if k = 2 then line else if k = 3 then ws.getD n.toNat ⟨#[]⟩ else if k = 4 then s else if k = 5 then xs.getD 0 ⟨#[]⟩ ++ xs.getD 1 ⟨#[]⟩ else if k = 6 then (xs.getD 0 ⟨#[]⟩).extract 0 (min n.toNat (xs.getD 0 ⟨#[]⟩).size) else ⟨#[]⟩
mutual
def strE : ExprV → ByteArray → ByteArray → List ByteArray → ByteArray
  | .mk k n s a, line, it, ws => strK k n s line it ws (strL a line it ws)
def strL : List ExprV → ByteArray → ByteArray → List ByteArray → List ByteArray
  | [], _, _, _ => []
  | x :: r, line, it, ws => strE x line it ws :: strL r line it ws
end
theorem shE_parts {k n : Int} {s : ByteArray} {a : List ExprV} {text each : Bool} (h : shE (.mk k n s a) text each = true) :
    (1 ≤ k ∧ k ≤ 10) ∧ nOk k n each = true ∧ sOk k s = true ∧ decide (k ≤ 6) = text ∧ a.length = (kidsOf k).length ∧ shL a (kidsOf k) each = true := by
  rw [shE] at h
  simp only [Bool.and_eq_true, decide_eq_true_eq, beq_iff_eq] at h
  obtain ⟨h1, h2, h3, h4, h5, h6⟩ := h
  exact ⟨h1, h2, h3, h4, h5, h6⟩
theorem n_range {k n : Int} {each : Bool} (h : nOk k n each = true) (hk : k = 3 ∨ k = 6) : 0 ≤ n ∧ n ≤ 120 := by
  unfold nOk at h
  rw [if_neg (by omega), if_pos hk] at h
  simpa using h
/-- a record and its words -/
abbrev boxR (w : World) (line it : ByteArray) (wo : Option Addr) (len cap : Nat) : World := w.alloc (.cells #[.string line, .string it, .slice wo len cap] 109)
theorem boxR_cells (w : World) (line it : ByteArray) (wo : Option Addr) (len cap : Nat) :
    (boxR w line it wo len cap).cell? ⟨w.heap.size, 0, none⟩ = some (.string line) ∧ (boxR w line it wo len cap).cell? ⟨w.heap.size, 1, none⟩ = some (.string it) ∧ (boxR w line it wo len cap).cell? ⟨w.heap.size, 2, none⟩ = some (.slice wo len cap) :=
  have h := Bk.new (w := w) (cs := #[.string line, .string it, .slice wo len cap]) (t := 109) rfl
  ⟨h.get (j := 0) rfl, h.get (j := 1) rfl, h.get (j := 2) rfl⟩
theorem boxR_below (w : World) (line it : ByteArray) (wo : Option Addr) (len cap : Nat) : Below w.heap.size w (boxR w line it wo len cap) := (Below.refl _ _).alloc (Nat.le_refl _) _
set_option maxRecDepth 100000 in
set_option maxHeartbeats 1000000 in
theorem Str_any (line it : ByteArray) (wo : Option Addr) (wcap : Nat) (ws : List ByteArray) (each : Bool) (hws : ws.length ≤ 1000) (hB : Hid (∀ e : ExprV, shE e true each = true → e.nodes ≤ 1000 → (strE e line it ws).size ≤ 1000000)) (d : Nat) : ∀ (k n : Int) (s : ByteArray) (a : List ExprV) (ao : Option Addr) (cap : Nat) (w : World), ExAt w d (.mk k n s a) (encX k n s ao a.length cap) →
    shE (.mk k n s a) true each = true → (ExprV.mk k n s a).nodes ≤ 1000 → Sl 1 encS w wo ws →
    Calls Tryz.prog 99 #[.agg #[.int .i64 k, .int .i64 n, .string s, .slice ao a.length cap], .agg #[.string line, .string it, .slice wo ws.length wcap]] w fun e w' => e = .returned (.string (strE (.mk k n s a) line it ws)) ∧ Below w.heap.size w w' := by
  induction d with
  | zero => intro _ _ _ _ _ _ _ h; exact h.elim
  | succ d ih =>
    intro k n s a ao cap w h hsh hnd hsl
    have HND := hide hnd
    clear hnd
    have IH := hide ih
    clear ih
    obtain ⟨ao', cap', he, hk, hn, hs, ha, hkids⟩ := h
    obtain ⟨rfl, rfl⟩ : ao = ao' ∧ cap = cap' := by simp [encX] at he; exact ⟨he.1, he.2⟩
    clear he
    obtain ⟨p1, p2, p3, p4, p5, p6⟩ := shE_parts hsh
    have p4' : k ≤ 6 := by simpa using p4
    have hb1 := box_below w k n s ao a.length cap
    have hb2 := boxR_below (boxX w k n s ao a.length cap) line it wo ws.length wcap
    have hb12 := hb1.trans (hb2.mono hb1.size)
    obtain ⟨c0, c1, c2, c3⟩ := box_cells w k n s ao a.length cap
    have c0 := cell_later hb2 c0
    have c1 := cell_later hb2 c1
    have c2 := cell_later hb2 c2
    have c3 := cell_later hb2 c3
    obtain ⟨r0, r1, r2⟩ := boxR_cells (boxX w k n s ao a.length cap) line it wo ws.length wcap
    have hs1 : (boxX w k n s ao a.length cap).heap.size = w.heap.size + 1 := by simp
    rw [hs1] at r0 r1 r2
    have hsl2 := hsl.later hb12 (Nat.le_refl _)
    have HE : Hid (strE (.mk k n s a) line it ws = strK k n s line it ws (strL a line it ws)) := by show _ = _; rw [strE]
    have HB := hide hb12
    have HK := hide (hkids.mono (E' := ExAt (boxR (boxX w k n s ao a.length cap) line it wo ws.length wcap) d) (fun x q hq => hq.later hb12 (Nat.le_refl _)) hb12 (Nat.le_refl _))
    have HSL := hide hsl2
    have HN := fun hk' => hide (n_range p2 hk')
    have P6 := hide p6
    have P5 := hide p5
    clear hsh hkids hs1 hb1 hb2 hb12 hsl hsl2 p2 p3 p4 p5 p6
    unfold maxLen at ha hs
    obtain rfl | rfl | rfl | rfl | rfl | rfl : k = 1 ∨ k = 2 ∨ k = 3 ∨ k = 4 ∨ k = 5 ∨ k = 6 := by omega
    · clear P5 P6 HN IH HK
      go_enter Tryz.func99, Tryz.ntmps99
      go_wp2
      go_ret
      exact ⟨by rw [HE.out]; rfl, HB.out⟩
    · clear P5 P6 HN IH HK
      go_enter Tryz.func99, Tryz.ntmps99
      go_wp2
      go_ret
      exact ⟨by rw [HE.out]; rfl, HB.out⟩
    · obtain ⟨n0, n1⟩ := (HN (.inl rfl)).out
      obtain ⟨m, rfl⟩ : ∃ m : Nat, n = m := ⟨n.toNat, by omega⟩
      clear P5 P6 HN IH HK
      by_cases hlt : m < ws.length
      · obtain ⟨b, off, x, rfl, hbw, hlk, u0⟩ := HSL.out.str hlt
        have HX : Hid (strE (.mk 3 m s a) line it ws = x) := by
          show _ = _
          rw [HE.out]
          show ws.getD (m : Int).toNat ⟨#[]⟩ = x
          rw [Int.toNat_natCast, List.getD_eq_getElem?_getD, hlk]; rfl
        have f1 : (0 : Int) ≤ (m : Int) ∧ (m : Int) < (ws.length : Int) := by omega
        obtain ⟨f1, f2⟩ := f1
        clear hlk HE
        go_enter Tryz.func99, Tryz.ntmps99
        go_wp2
        go_ret
        exact ⟨by rw [HX.out]; rfl, HB.out⟩
      · have HX : Hid (strE (.mk 3 m s a) line it ws = ⟨#[]⟩) := by
          show _ = _
          rw [HE.out]
          show ws.getD (m : Int).toNat ⟨#[]⟩ = _
          rw [Int.toNat_natCast, List.getD_eq_getElem?_getD, List.getElem?_eq_none (by omega)]; rfl
        have f2 : decide ((m : Int) < (ws.length : Int)) = false := by simp; omega
        clear HE
        go_enter Tryz.func99, Tryz.ntmps99
        go_wp2
        go_ret
        exact ⟨by rw [HX.out]; rfl, HB.out⟩
    · clear P5 P6 HN IH HK
      go_enter Tryz.func99, Tryz.ntmps99
      go_wp2
      go_ret
      exact ⟨by rw [HE.out]; rfl, HB.out⟩
    · have hl2 : a.length = 2 := P5.out
      obtain ⟨x0, x1, rfl⟩ : ∃ x0 x1, a = [x0, x1] := by
        match a, hl2 with
        | [x, y], _ => exact ⟨x, y, rfl⟩
      obtain ⟨b, off, d', k0, n0, s0, l0, ao0, cap0, rfl, hbs, rfl, hx, hex, g0, g1, g2, g3⟩ := HK.out.kid (i := 0) (by simp)
      obtain ⟨b', off', d'', k1, n1, s1, l1, ao1, cap1, eb, hbs', ed, hx', hex', u0, u1, u2, u3⟩ := HK.out.kid (i := 1) (by simp)
      cases eb
      cases ed
      obtain rfl : x0 = .mk k0 n0 s0 l0 := by simpa using hx
      obtain rfl : x1 = .mk k1 n1 s1 l1 := by simpa using hx'
      have hsh0 : shE (.mk k0 n0 s0 l0) true each = true ∧ shE (.mk k1 n1 s1 l1) true each = true := by
        have := P6.out
        rw [show kidsOf 5 = [true, true] from rfl, shL, shL] at this
        simp only [Bool.and_eq_true] at this
        exact ⟨this.1, this.2.1⟩
      have HV : Hid (strE (.mk 5 n s [.mk k0 n0 s0 l0, .mk k1 n1 s1 l1]) line it ws = strE (.mk k0 n0 s0 l0) line it ws ++ strE (.mk k1 n1 s1 l1) line it ws) := by
        show _ = _
        rw [HE.out]; rfl
      have hnk : (ExprV.mk k0 n0 s0 l0).nodes ≤ 1000 ∧ (ExprV.mk k1 n1 s1 l1).nodes ≤ 1000 := by
        have := HND.out
        unfold ExprV.nodes ExprV.nodesL ExprV.nodesL ExprV.nodesL at this
        omega
      have hz0 := hB.out _ hsh0.1 hnk.1
      have hz1 := hB.out _ hsh0.2 hnk.2
      have I0 := fun w' (bw : Below (boxR (boxX w 5 n s (some ⟨b, off, none⟩) [ExprV.mk k0 n0 s0 l0, ExprV.mk k1 n1 s1 l1].length cap) line it wo ws.length wcap).heap.size (boxR (boxX w 5 n s (some ⟨b, off, none⟩) [ExprV.mk k0 n0 s0 l0, ExprV.mk k1 n1 s1 l1].length cap) line it wo ws.length wcap) w') =>
        IH.out k0 n0 s0 l0 ao0 cap0 w' (hex.later bw (Nat.le_refl _)) hsh0.1 hnk.1 (HSL.out.later bw (Nat.le_refl _))
      have I1 := fun w' (bw : Below (boxR (boxX w 5 n s (some ⟨b, off, none⟩) [ExprV.mk k0 n0 s0 l0, ExprV.mk k1 n1 s1 l1].length cap) line it wo ws.length wcap).heap.size (boxR (boxX w 5 n s (some ⟨b, off, none⟩) [ExprV.mk k0 n0 s0 l0, ExprV.mk k1 n1 s1 l1].length cap) line it wo ws.length wcap) w') =>
        IH.out k1 n1 s1 l1 ao1 cap1 w' (hex'.later bw (Nat.le_refl _)) hsh0.2 hnk.2 (HSL.out.later bw (Nat.le_refl _))
      simp only [Nat.zero_mul, Nat.add_zero, Nat.one_mul] at g0 g1 g2 g3 u0 u1 u2 u3
      simp only [List.length_cons, List.length_nil, Nat.zero_add, Nat.reduceAdd] at g0 g1 g2 g3 u0 u1 u2 u3 c0 c1 c2 c3 r0 r1 r2 I0 I1 HB
      have HI0 := hide I0
      have HI1 := hide I1
      generalize strE (.mk k0 n0 s0 l0) line it ws = xs at *
      generalize strE (.mk k1 n1 s1 l1) line it ws = ys at *
      have hzz : ¬ (9223372036854775807 < xs.size + ys.size) := by omega
      simp only [boxR, boxX] at c3 g0 g1 g2 g3 u0 u1 u2 u3 r0 r1 r2 HI0 HI1 HB
      clear hnk hx hx' hex hex' hsh0 P5 P6 HN IH HK HE I0 I1 hl2 HSL hbs hbs'
      go_enter Tryz.func99, Tryz.ntmps99
      go_upto_region 12 with (fail)
      generalize (w.alloc (.cells #[.int .i64 5, .int .i64 n, .string s, .slice (some ⟨b, off, none⟩) 2 cap] 67)).alloc (.cells #[.string line, .string it, .slice wo ws.length wcap] 109) = W2 at *
      clear c0 c1 c2
      have hwf : Below W2.heap.size W2 W2.drew := (Below.refl _ _).drew
      go_region_held3 (fun w' => Below W2.heap.size W2 w' ∧ w'.cell? ⟨w.heap.size, 3, none⟩ = some (.slice (some ⟨b, off, none⟩) 2 cap) ∧ w'.cell? ⟨b, off, none⟩ = some (.int .i64 k0) ∧ w'.cell? ⟨b, off + 1, none⟩ = some (.int .i64 n0) ∧ w'.cell? ⟨b, off + 2, none⟩ = some (.string s0) ∧ w'.cell? ⟨b, off + 3, none⟩ = some (.slice ao0 l0.length cap0) ∧ w'.cell? ⟨b, off + 4, none⟩ = some (.int .i64 k1) ∧ w'.cell? ⟨b, off + 4 + 1, none⟩ = some (.int .i64 n1) ∧ w'.cell? ⟨b, off + 4 + 2, none⟩ = some (.string s1) ∧ w'.cell? ⟨b, off + 4 + 3, none⟩ = some (.slice ao1 l1.length cap1) ∧ w'.cell? ⟨w.heap.size + 1, 0, none⟩ = some (.string line) ∧ w'.cell? ⟨w.heap.size + 1, 1, none⟩ = some (.string it) ∧ w'.cell? ⟨w.heap.size + 1, 2, none⟩ = some (.slice wo ws.length wcap))
        (first
          | exact ⟨hwf, c3, g0, g1, g2, g3, u0, u1, u2, u3, r0, r1, r2⟩
          | (have h := (by assumption : Below W2.heap.size W2 _ ∧ _ ∧ _); exact ⟨h.1.trans (b3.mono h.1.size), cell_later b3 h.2.1, cell_later b3 h.2.2.1, cell_later b3 h.2.2.2.1, cell_later b3 h.2.2.2.2.1, cell_later b3 h.2.2.2.2.2.1, cell_later b3 h.2.2.2.2.2.2.1, cell_later b3 h.2.2.2.2.2.2.2.1, cell_later b3 h.2.2.2.2.2.2.2.2.1, cell_later b3 h.2.2.2.2.2.2.2.2.2.1, cell_later b3 h.2.2.2.2.2.2.2.2.2.2.1, cell_later b3 h.2.2.2.2.2.2.2.2.2.2.2.1, cell_later b3 h.2.2.2.2.2.2.2.2.2.2.2.2⟩)
          | go_keep)
        (first
          | (go_at_call_of 99 (Value.agg #[Value.int IntKind.i64 k0, Value.int IntKind.i64 n0, Value.string s0, Value.slice ao0 l0.length cap0]); have h := (by assumption : Below W2.heap.size W2 _ ∧ _ ∧ _); refine (HI0.out _ h.1).mono ?_; clear h; rintro e w3 ⟨rfl, b3⟩)
          | (go_at_call_of 99 (Value.agg #[Value.int IntKind.i64 k1, Value.int IntKind.i64 n1, Value.string s1, Value.slice ao1 l1.length cap1]); have h := (by assumption : Below W2.heap.size W2 _ ∧ _ ∧ _); refine (HI1.out _ h.1).mono ?_; clear h; rintro e w3 ⟨rfl, b3⟩))
      all_goals
        have h := (by assumption : Below W2.heap.size W2 _ ∧ _ ∧ _)
        have HBE := hide (HB.out.trans (h.1.mono HB.out.size))
        clear h
        go_wp2
        go_ret
        exact ⟨by rw [HV.out]; rfl, HBE.out⟩
    · obtain ⟨n0, n1⟩ := (HN (.inr rfl)).out
      obtain ⟨m, rfl⟩ : ∃ m : Nat, n = m := ⟨n.toNat, by omega⟩
      have hl1 : a.length = 1 := P5.out
      obtain ⟨x0, rfl⟩ : ∃ x0, a = [x0] := by
        match a, hl1 with
        | [x], _ => exact ⟨x, rfl⟩
      obtain ⟨b, off, d', k', n', s', l', ao', cap', rfl, hbs, rfl, hx, hex, g0, g1, g2, g3⟩ := HK.out.kid (i := 0) (by simp)
      obtain rfl : x0 = .mk k' n' s' l' := by simpa using hx
      have hsh0 : shE (.mk k' n' s' l') true each = true := by
        have := P6.out
        rw [show kidsOf 6 = [true] from rfl, shL] at this
        simp only [Bool.and_eq_true] at this
        exact this.1
      have hbd : Below w.heap.size w ((boxR (boxX w 6 m s (some ⟨b, off, none⟩) [ExprV.mk k' n' s' l'].length cap) line it wo ws.length wcap).drew) := HB.out.drew
      have HX := hide (IH.out k' n' s' l' ao' cap' ((boxR (boxX w 6 m s (some ⟨b, off, none⟩) [ExprV.mk k' n' s' l'].length cap) line it wo ws.length wcap).drew) (hex.later ((Below.refl _ _).drew) (Nat.le_refl _)) hsh0 (by have := HND.out; unfold ExprV.nodes ExprV.nodesL ExprV.nodesL at this; omega) (HSL.out.later ((Below.refl _ _).drew) (Nat.le_refl _)))
      have HV : Hid (strE (.mk 6 m s [.mk k' n' s' l']) line it ws = (strE (.mk k' n' s' l') line it ws).extract 0 (min m (strE (.mk k' n' s' l') line it ws).size)) := by
        show _ = _
        rw [HE.out]; rfl
      simp only [Nat.zero_mul, Nat.add_zero] at g0 g1 g2 g3
      have HBD := hide hbd
      clear hx hex hsh0 hbd P5 P6 HN IH HK HE
      simp only [List.length_cons, List.length_nil, Nat.zero_add] at g0 g1 g2 g3 c0 c1 c2 c3 r0 r1 r2 HX HBD
      generalize strE (.mk k' n' s' l') line it ws = xs at *
      go_enter Tryz.func99, Tryz.ntmps99
      go_upto_region 14 with (fail)
      refine still_tail 5 (by kernel_rfl) (by kernel_rfl) ?_
      simp only [List.take_succ_cons, List.take_zero, List.drop_succ_cons, List.drop_zero]
      iterate 5 still_step
      refine wpStill_nil ?_
      go_wp2_with fail
      refine HX.out.mono ?_
      rintro e w3 ⟨rfl, b3⟩
      have HB3 := hide (HBD.out.trans (b3.mono HBD.out.size))
      have q1 : w3.cell? ⟨w.heap.size, 1, none⟩ = some (.int .i64 m) := cell_later b3 c1
      clear HX b3
      go_wp2
      go_ret
      refine ⟨?_, HB3.out⟩
      rw [HV.out]
      show Ending.returned (.string (xs.extract 0 (min (m : Int) (xs.size : Int)).toNat)) = _
      rw [show (min (m : Int) (xs.size : Int)).toNat = min m xs.size by omega]
end Go.Proofs.YtgeedjlbajmdkaaGreatDoor
