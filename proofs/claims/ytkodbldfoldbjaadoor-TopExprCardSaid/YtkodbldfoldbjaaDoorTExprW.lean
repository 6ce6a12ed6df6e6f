/- TopExpr: the law's walk. -/
import Derived.Test.YtkodbldfoldbjaaDoorExprOpen
import Derived.Test.YtkodbldfoldbjaaDoorWordsLaw
set_option linter.unusedSimpArgs false
set_option linter.unusedVariables false
namespace Go.Proofs.YtkodbldfoldbjaaDoor
open Go.RowKit Go.ChangeShapes Go.WideShapes Go.ChangeAt

theorem ExAt.up {w : World} : ∀ {d d' : Nat} {e : ExprV} {cs : List Value}, d ≤ d' → ExAt w d e cs → ExAt w d' e cs
  | 0, _, _, _, _, h => h.elim
  | d + 1, d' + 1, .mk k n s a, cs, hd, h => by
    obtain ⟨ao, cap, e, h1, h2, h3, h4, h5⟩ := h
    refine ⟨ao, cap, e, h1, h2, h3, h4, fun i x hi => ?_⟩
    obtain ⟨b, off, q, e1, e2, e3, e4⟩ := h5 i x hi
    exact ⟨b, off, q, e1, e2, e3, ExAt.up (by omega) e4⟩
theorem kids1 {w : World} {E : ExprV → List Value → Prop} {b : Nat} {x : ExprV} {q : List Value} (hb : Bk w b q) (hx : E x q) : KidsAt E w (some ⟨b, 0, none⟩) [x] := by
  intro i y hi
  match i, hi with
  | 0, hi =>
    obtain rfl : x = y := by simpa using hi
    exact ⟨b, 0, q, rfl, hb.lt, fun j u hj => by simpa using hb.get hj, hx⟩
theorem kids2 {w : World} {E : ExprV → List Value → Prop} {b : Nat} {x y : ExprV} {q r : List Value} (hq : q.length = 4) (hb : Bk w b (q ++ r)) (hx : E x q) (hy : E y r) : KidsAt E w (some ⟨b, 0, none⟩) [x, y] := by
  intro i z hi
  match i, hi with
  | 0, hi =>
    obtain rfl : x = z := by simpa using hi
    exact ⟨b, 0, q, rfl, hb.lt, fun j u hj => by
      have h4 : j < q.length := (List.getElem?_eq_some_iff.1 hj).1
      have := hb.get (j := j) (v := u) (by rw [List.getElem?_append_left h4]; exact hj)
      simpa using this, hx⟩
  | 1, hi =>
    obtain rfl : y = z := by simpa using hi
    exact ⟨b, 0, r, rfl, hb.lt, fun j u hj => by
      have := hb.get (j := 4 + j) (v := u) (by rw [List.getElem?_append_right (by omega), hq, Nat.add_sub_cancel_left]; exact hj)
      simpa using this, hy⟩
theorem ExAt.node {w : World} {d : Nat} {k n : Int} {a : List ExprV} {ao : Option Addr} {cap : Nat} (hk : -1000 ≤ k ∧ k ≤ 1000) (hn : -1000 ≤ n ∧ n ≤ 1000) (ha : a.length ≤ 1000) (h : KidsAt (ExAt w d) w ao a) : ExAt w (d + 1) (.mk k n ⟨#[]⟩ a) (encX k n ⟨#[]⟩ ao a.length cap) :=
  ⟨ao, cap, rfl, by omega, by omega, by unfold maxLen; decide, by unfold maxLen; omega, h⟩
theorem words_small {line : ByteArray} (h : line.size ≤ 300) : (wordsB line).length ≤ 301 ∧ ∀ x ∈ wordsB line, x.size ≤ 1000 := by
  rw [wordsB_eq, List.length_map]
  have h3 := tl_len line
  constructor
  · have := words_len line.data.toList
    omega
  · intro x hx
    obtain ⟨l, hl, rfl⟩ := List.mem_map.1 hx
    rw [tx_size]
    have := (words_mem hl).2.1
    omega
theorem fault_zero {e : ExprV} {text each : Bool} (h : faultE e text each = 0) : shE e text each = true ∧ e.nodes ≤ 30 := by
  unfold faultE at h
  split at h
  · omega
  next hc =>
    split at h
    next hs => exact ⟨hs, by omega⟩
    · omega
theorem errV_ne (f : Int) (hf : 0 ≤ f) : (f = 0 ∧ errV f = .nilIface) ∨ (f ≠ 0 ∧ errV f = .iface 99 (.int .i64 f)) := by
  by_cases h : f = 0
  · exact .inl ⟨h, by rw [h]; rfl⟩
  · exact .inr ⟨h, errV_pos h⟩
theorem int_len (e : ExprV) (line it : ByteArray) (ws : List ByteArray) : intE (.mk 8 0 ⟨#[]⟩ [e]) line it ws = ((strE e line it ws).size : Int) := by
  rw [intE, strL]; rfl
set_option maxRecDepth 100000 in
set_option maxHeartbeats 8000000 in
theorem TopExpr_walk (d : Nat) (k n : Int) (s : ByteArray) (a : List ExprV) (ao : Option Addr) (cap : Nat) (k2 n2 : Int) (s2 : ByteArray) (a2 : List ExprV) (ao2 : Option Addr) (cap2 : Nat) (line : ByteArray) (nn : Int) (w : World) (hg : GM w)
    (h : ExAt w d (.mk k n s a) (encX k n s ao a.length cap)) (h2 : ExAt w d (.mk k2 n2 s2 a2) (encX k2 n2 s2 ao2 a2.length cap2)) (hls : line.size ≤ maxLen) :
    Calls Tryd.prog 8 #[.agg #[.int .i64 k, .int .i64 n, .string s, .slice ao a.length cap], .agg #[.int .i64 k2, .int .i64 n2, .string s2, .slice ao2 a2.length cap2], .string line, .int .i64 nn] w fun e w' => e = .returned (.bool true) ∧ Below w.heap.size w w' := by
  have hb1 := box_below w k n s ao a.length cap
  have hb2 := (box_below (boxX w k n s ao a.length cap) k2 n2 s2 ao2 a2.length cap2)
  have HB := hide (hb1.trans (hb2.mono hb1.size))
  have H0E := hide h
  have H0O := hide h2
  have HG := hide (hg.later HB.out (Nat.le_refl _))
  have HE := hide (h.later HB.out (Nat.le_refl _))
  have HO := hide (h2.later HB.out (Nat.le_refl _))
  have KE : Hid (Bk (boxX (boxX w k n s ao a.length cap) k2 n2 s2 ao2 a2.length cap2) w.heap.size [.int .i64 k, .int .i64 n, .string s, .slice ao a.length cap]) := (Bk.new rfl).later hb2
  have KO : Hid (Bk (boxX (boxX w k n s ao a.length cap) k2 n2 s2 ao2 a2.length cap2) (w.heap.size + 1) [.int .i64 k2, .int .i64 n2, .string s2, .slice ao2 a2.length cap2]) := by
    have := Bk.new (w := boxX w k n s ao a.length cap) (cs := #[.int .i64 k2, .int .i64 n2, .string s2, .slice ao2 a2.length cap2]) (t := 24) rfl
    rw [show (boxX w k n s ao a.length cap).heap.size = w.heap.size + 1 by simp] at this
    exact this
  have hs1 : (boxX (boxX w k n s ao a.length cap) k2 n2 s2 ao2 a2.length cap2).heap.size = w.heap.size + 2 := by simp
  have hwb : wordsB ⟨#[97, 98, 32, 99]⟩ = [⟨#[97, 98]⟩, ⟨#[99]⟩] := by decide +kernel
  have HX := hide (Of_any ⟨#[97, 98, 32, 99]⟩ (boxX (boxX w k n s ao a.length cap) k2 n2 s2 ao2 a2.length cap2) HG.out (by decide))
  rw [hwb] at HX
  have hBs : Hid (∀ e : ExprV, shE e true true = true → e.nodes ≤ 1000 → (strE e ⟨#[97, 98, 32, 99]⟩ ⟨#[]⟩ [⟨#[97, 98]⟩, ⟨#[99]⟩]).size ≤ 1000000) :=
    str_small (by decide) (by decide) (fun x hx => by
      rcases List.mem_cons.1 hx with rfl | hx
      · decide
      · rcases List.mem_cons.1 hx with rfl | hx
        · decide
        · cases hx)
  unfold maxLen at hls
  clear hwb hb1 hb2 h h2 hg
  simp only [boxX] at HB HG HE HO KE KO HX hs1
  go_enter Tryd.func8, Tryd.ntmps8
  go_wp2_with fail
  refine HX.out.mono ?_
  rintro e w1 ⟨v1, rfl, o1, b1⟩
  clear HX
  generalize (w.alloc (.cells #[.int .i64 k, .int .i64 n, .string s, .slice ao a.length cap] 24)).alloc (.cells #[.int .i64 k2, .int .i64 n2, .string s2, .slice ao2 a2.length cap2] 24) = W at *
  obtain ⟨⟨a1, q1, rfl⟩, _⟩ := id o1
  replace HB := hide (HB.out.trans (b1.mono HB.out.size))
  replace HG := hide (HG.out.later b1 (Nat.le_refl _))
  replace HE := hide (HE.out.later b1 (Nat.le_refl _))
  replace HO := hide (HO.out.later b1 (Nat.le_refl _))
  replace KE := hide (KE.out.later b1)
  replace KO := hide (KO.out.later b1)
  have hs2 : w.heap.size + 2 ≤ w1.heap.size := by have := b1.size; omega
  have hb3 : Below w1.heap.size w1 (w1.alloc (.cells #[.string ⟨#[97, 98, 32, 99]⟩, .string ⟨#[]⟩, .slice a1 2 q1] 36)) := (Below.refl _ _).alloc (Nat.le_refl _) _
  replace HB := hide (HB.out.trans (hb3.mono HB.out.size))
  replace HG := hide (HG.out.later hb3 (Nat.le_refl _))
  replace HE := hide (HE.out.later hb3 (Nat.le_refl _))
  replace HO := hide (HO.out.later hb3 (Nat.le_refl _))
  replace KE := hide (KE.out.later hb3)
  replace KO := hide (KO.out.later hb3)
  have KR : Hid (Bk (w1.alloc (.cells #[.string ⟨#[97, 98, 32, 99]⟩, .string ⟨#[]⟩, .slice a1 2 q1] 36)) w1.heap.size [.string ⟨#[97, 98, 32, 99]⟩, .string ⟨#[]⟩, .slice a1 2 q1]) := Bk.new rfl
  have hsl := (o1.sl encS_len).later hb3 (Nat.le_refl _)
  have HS := hide (Str_any ⟨#[97, 98, 32, 99]⟩ ⟨#[]⟩ a1 q1 [⟨#[97, 98]⟩, ⟨#[99]⟩] true (by decide) hBs 1 2 0 ⟨#[]⟩ [] none 0 _ (ExAt_leaf _ 2 0 ⟨#[]⟩ (by decide) (by decide) (by decide)) (by decide +kernel) (by decide +kernel) hsl)
  rw [show strE (.mk 2 0 ⟨#[]⟩ []) ⟨#[97, 98, 32, 99]⟩ ⟨#[]⟩ [⟨#[97, 98]⟩, ⟨#[99]⟩] = ⟨#[97, 98, 32, 99]⟩ by rw [strE]; rfl] at HS
  obtain ⟨r0, r1, r2⟩ := boxR_cells w1 ⟨#[97, 98, 32, 99]⟩ ⟨#[]⟩ a1 2 q1
  clear hsl b1 hb3 o1 hs1
  go_wp2_with fail
  refine HS.out.mono ?_
  rintro e w2 ⟨rfl, b2⟩
  clear HS hBs r0 r1 r2
  generalize w1.alloc (.cells #[.string ⟨#[97, 98, 32, 99]⟩, .string ⟨#[]⟩, .slice a1 2 q1] 36) = W1 at *
  replace HB := hide (HB.out.trans (b2.mono HB.out.size))
  replace HG := hide (HG.out.later b2 (Nat.le_refl _))
  replace HE := hide (HE.out.later b2 (Nat.le_refl _))
  replace HO := hide (HO.out.later b2 (Nat.le_refl _))
  replace KE := hide (KE.out.later b2)
  replace KO := hide (KO.out.later b2)
  replace KR := hide (KR.out.later b2)
  clear b2
  have c0 := KE.out.get (j := 0) rfl
  have c1 := KE.out.get (j := 1) rfl
  have c2 := KE.out.get (j := 2) rfl
  have c3 := KE.out.get (j := 3) rfl
  have d0 := KO.out.get (j := 0) rfl
  have d1 := KO.out.get (j := 1) rfl
  have d2 := KO.out.get (j := 2) rfl
  have d3 := KO.out.get (j := 3) rfl
  have HX1 := hide fun w' (hb : Below w.heap.size w w') => LightExpr_any d k n s a ao cap w' (H0E.out.later hb (Nat.le_refl _))
  have HX2 := hide fun w' (hb : Below w.heap.size w w') => LightExpr_any d k2 n2 s2 a2 ao2 cap2 w' (H0O.out.later hb (Nat.le_refl _))
  have HC1 := hide fun w' (hb : Below w.heap.size w w') => Check_any d k n s a ao cap w' true false (H0E.out.later hb (Nat.le_refl _))
  have HC2 := hide fun w' (hb : Below w.heap.size w w') => Check_any d k2 n2 s2 a2 ao2 cap2 w' true false (H0O.out.later hb (Nat.le_refl _))
  have hf1 := faultE_nn (.mk k n s a) true false
  have hf2 := faultE_nn (.mk k2 n2 s2 a2) true false
  generalize hlt1 : decide (wtE (.mk k n s a) ≤ 400) = lt1 at *
  generalize hlt2 : decide (wtE (.mk k2 n2 s2 a2) ≤ 400) = lt2 at *
  generalize hfe1 : faultE (.mk k n s a) true false = fe1 at *
  generalize hfe2 : faultE (.mk k2 n2 s2 a2) true false = fe2 at *
  have HFE1 := hide hfe1
  have HFE2 := hide hfe2
  clear hlt1 hlt2 hfe1 hfe2 HE HO
  go_wp2_with fail
  refine (HX1.out _ HB.out).mono ?_
  rintro e w3 ⟨rfl, b3⟩
  replace HB := hide (HB.out.trans (b3.mono HB.out.size))
  replace HG := hide (HG.out.later b3 (Nat.le_refl _))
  replace KE := hide (KE.out.later b3)
  replace KO := hide (KO.out.later b3)
  replace KR := hide (KR.out.later b3)
  clear b3 HX1
  cases lt1
  · go_wp2
    go_ret
    exact ⟨rfl, HB.out⟩
  have c0 := KE.out.get (j := 0) rfl
  have c1 := KE.out.get (j := 1) rfl
  have c2 := KE.out.get (j := 2) rfl
  have c3 := KE.out.get (j := 3) rfl
  have d0 := KO.out.get (j := 0) rfl
  have d1 := KO.out.get (j := 1) rfl
  have d2 := KO.out.get (j := 2) rfl
  have d3 := KO.out.get (j := 3) rfl
  go_wp2_with fail
  refine (HX2.out _ HB.out).mono ?_
  rintro e w4 ⟨rfl, b4⟩
  replace HB := hide (HB.out.trans (b4.mono HB.out.size))
  replace HG := hide (HG.out.later b4 (Nat.le_refl _))
  replace KE := hide (KE.out.later b4)
  replace KO := hide (KO.out.later b4)
  replace KR := hide (KR.out.later b4)
  clear b4 HX2
  cases lt2
  · go_wp2
    go_ret
    exact ⟨rfl, HB.out⟩
  by_cases hl2 : 200 < line.size
  · have e1 : decide ((200 : Int) < (line.size : Int)) = true := by simp; omega
    go_wp2
    go_ret
    exact ⟨rfl, HB.out⟩
  have e1 : decide ((200 : Int) < (line.size : Int)) = false := by simp; omega
  have c0 := KE.out.get (j := 0) rfl
  have c1 := KE.out.get (j := 1) rfl
  have c2 := KE.out.get (j := 2) rfl
  have c3 := KE.out.get (j := 3) rfl
  have d0 := KO.out.get (j := 0) rfl
  have d1 := KO.out.get (j := 1) rfl
  have d2 := KO.out.get (j := 2) rfl
  have d3 := KO.out.get (j := 3) rfl
  go_wp2_with fail
  refine (HC1.out _ HB.out).mono ?_
  rintro e w5 ⟨rfl, b5⟩
  replace HB := hide (HB.out.trans (b5.mono HB.out.size))
  replace HG := hide (HG.out.later b5 (Nat.le_refl _))
  replace KE := hide (KE.out.later b5)
  replace KO := hide (KO.out.later b5)
  replace KR := hide (KR.out.later b5)
  clear b5 HC1
  rcases errV_ne fe1 hf1 with ⟨hz1, he1⟩ | ⟨hz1, he1⟩
  case inr =>
    rw [he1]
    go_wp2
    go_ret
    exact ⟨rfl, HB.out⟩
  rw [he1]
  have c0 := KE.out.get (j := 0) rfl
  have c1 := KE.out.get (j := 1) rfl
  have c2 := KE.out.get (j := 2) rfl
  have c3 := KE.out.get (j := 3) rfl
  have d0 := KO.out.get (j := 0) rfl
  have d1 := KO.out.get (j := 1) rfl
  have d2 := KO.out.get (j := 2) rfl
  have d3 := KO.out.get (j := 3) rfl
  go_wp2_with fail
  refine (HC2.out _ HB.out).mono ?_
  rintro e w6 ⟨rfl, b6⟩
  replace HB := hide (HB.out.trans (b6.mono HB.out.size))
  replace HG := hide (HG.out.later b6 (Nat.le_refl _))
  replace KE := hide (KE.out.later b6)
  replace KO := hide (KO.out.later b6)
  replace KR := hide (KR.out.later b6)
  clear b6 HC2
  rcases errV_ne fe2 hf2 with ⟨hz2, he2⟩ | ⟨hz2, he2⟩
  case inr =>
    rw [he2]
    go_wp2
    go_ret
    exact ⟨rfl, HB.out⟩
  rw [he2]
  have hw := fault_zero (e := .mk k n s a) (text := true) (each := false) (by rw [HFE1.out, hz1])
  have hw2 := fault_zero (e := .mk k2 n2 s2 a2) (text := true) (each := false) (by rw [HFE2.out, hz2])
  have HW := hide hw
  have HW2 := hide hw2
  clear hw hw2 hf1 hf2 HFE1 HFE2 hz1 hz2 he1 he2
  have HLN := hide (show line.size ≤ 1000 by omega)
  have HWS := hide (words_small (line := line) (by omega))
  have HOf := hide (Of_any line w6 HG.out (by have := HLN.out; omega))
  clear HG hls
  go_wp2_with fail
  refine HOf.out.mono ?_
  rintro e w7 ⟨v7, rfl, o7, b7⟩
  obtain ⟨⟨a7, q7, rfl⟩, _⟩ := id o7
  have hR7 : w1.heap.size < w6.heap.size := KR.out.lt
  replace HB := hide (HB.out.trans (b7.mono HB.out.size))
  replace KE := hide (KE.out.later b7)
  replace KO := hide (KO.out.later b7)
  replace KR := hide (KR.out.later b7)
  have hRb : w1.heap.size < w7.heap.size := KR.out.lt
  have r0 := KR.out.get (j := 0) rfl
  have r1 := KR.out.get (j := 1) rfl
  have r2 := KR.out.get (j := 2) rfl
  have z0 := KR.out.fz 0
  have z1 := KR.out.fz 1
  have z2 := KR.out.fz 2
  have hkk := ((KR.out.set (k := 0) (u := .string ⟨#[97, 98, 32, 99]⟩) (.string line) rfl).set (k := 1) (u := .string ⟨#[]⟩) (.string ⟨#[]⟩) rfl).set (k := 2) (u := .slice a1 2 q1) (.slice a7 (wordsB line).length q7) rfl
  have hoo : ∀ q, q = w1.heap.size → (Value.slice a7 (wordsB line).length q7).ownBlock ≠ some q := fun q e h => by
    have := (o7.lt _ h).1
    omega
  have hO8 := ((o7.setOther (a := ⟨w1.heap.size, 0, none⟩) (hoo _ rfl) (.string line)).setOther (a := ⟨w1.heap.size, 1, none⟩) (hoo _ rfl) (.string ⟨#[]⟩)).setOther (a := ⟨w1.heap.size, 2, none⟩) (hoo _ rfl) (.slice a7 (wordsB line).length q7)
  have hE8 := ((KE.out.setO (p := ⟨w1.heap.size, 0, none⟩) (by show w1.heap.size ≠ _; omega) (.string line)).setO (p := ⟨w1.heap.size, 1, none⟩) (by show w1.heap.size ≠ _; omega) (.string ⟨#[]⟩)).setO (p := ⟨w1.heap.size, 2, none⟩) (by show w1.heap.size ≠ _; omega) (.slice a7 (wordsB line).length q7)
  have hE9 := ((KO.out.setO (p := ⟨w1.heap.size, 0, none⟩) (by show w1.heap.size ≠ _; omega) (.string line)).setO (p := ⟨w1.heap.size, 1, none⟩) (by show w1.heap.size ≠ _; omega) (.string ⟨#[]⟩)).setO (p := ⟨w1.heap.size, 2, none⟩) (by show w1.heap.size ≠ _; omega) (.slice a7 (wordsB line).length q7)
  have hB8 := ((HB.out.setCell (p := ⟨w1.heap.size, 0, none⟩) (by show w.heap.size ≤ w1.heap.size; omega) (.string line)).setCell (p := ⟨w1.heap.size, 1, none⟩) (by show w.heap.size ≤ w1.heap.size; omega) (.string ⟨#[]⟩)).setCell (p := ⟨w1.heap.size, 2, none⟩) (by show w.heap.size ≤ w1.heap.size; omega) (.slice a7 (wordsB line).length q7)
  have HKK := hide hkk
  have HO8 := hide hO8
  have HE8 := hide hE8
  have HE9 := hide hE9
  have HB8 := hide hB8
  clear HOf b7 o7 hoo hkk hO8 hE8 hE9 hB8 KE KO KR HB hR7 hRb
  go_upto_region 7 with (fail)
  generalize ((w7.setCell ⟨w1.heap.size, 0, none⟩ (.string line)).setCell ⟨w1.heap.size, 1, none⟩ (.string ⟨#[]⟩)).setCell ⟨w1.heap.size, 2, none⟩ (.slice a7 (wordsB line).length q7) = W8 at *
  obtain ⟨R, hR⟩ : ∃ R, R = w1.heap.size := ⟨_, rfl⟩
  have HKR : Hid (Bk W8 R [.string line, .string ⟨#[]⟩, .slice a7 (wordsB line).length q7]) := by rw [hR]; exact HKK.out
  rw [← hR]
  have hRR : w.heap.size + 2 ≤ R := by omega
  have KE := HE8
  have KO := HE9
  have HB := HB8
  have HSL := hide (HO8.out.sl encS_len)
  clear HKK HE8 HE9 HB8 HO8 hR hs2 r0 r1 r2 z0 z1 z2
  have HBS : Hid (∀ e : ExprV, shE e true false = true → e.nodes ≤ 1000 → (strE e line ⟨#[]⟩ (wordsB line)).size ≤ 1000000) := str_small HLN.out (by decide) HWS.out.2
  have HWL : Hid ((wordsB line).length ≤ 1000) := by have := HWS.out.1; show _ ≤ _; omega
  generalize hWW : wordsB line = ws at *
  clear hWW
  have HS1 := hide fun w' (hb : Below w.heap.size w w') (hsl : Sl 1 encS w' a7 ws) => Str_any line ⟨#[]⟩ a7 q7 ws false HWL.out HBS d k n s a ao cap w' (H0E.out.later hb (Nat.le_refl _)) HW.out.1 (by have := HW.out.2; omega) hsl
  have HS2 := hide fun w' (hb : Below w.heap.size w w') (hsl : Sl 1 encS w' a7 ws) => Str_any line ⟨#[]⟩ a7 q7 ws false HWL.out HBS d k2 n2 s2 a2 ao2 cap2 w' (H0O.out.later hb (Nat.le_refl _)) HW2.out.1 (by have := HW2.out.2; omega) hsl
  have hxz := HBS.out _ HW.out.1 (by have := HW.out.2; omega)
  have hyz := HBS.out _ HW2.out.1 (by have := HW2.out.2; omega)
  obtain ⟨X, hX⟩ : ∃ X, strE (.mk k n s a) line ⟨#[]⟩ ws = X := ⟨_, rfl⟩
  obtain ⟨Y, hY⟩ : ∃ Y, strE (.mk k2 n2 s2 a2) line ⟨#[]⟩ ws = Y := ⟨_, rfl⟩
  rw [hX] at HS1 hxz
  rw [hY] at HS2 hyz
  have HXX := hide hX
  have HYY := hide hY
  clear hX hY
  have c0 := KE.out.get (j := 0) rfl
  have c1 := KE.out.get (j := 1) rfl
  have c2 := KE.out.get (j := 2) rfl
  have c3 := KE.out.get (j := 3) rfl
  have d0 := KO.out.get (j := 0) rfl
  have d1 := KO.out.get (j := 1) rfl
  have d2 := KO.out.get (j := 2) rfl
  have d3 := KO.out.get (j := 3) rfl
  have r0 := HKR.out.get (j := 0) rfl
  have r1 := HKR.out.get (j := 1) rfl
  have r2 := HKR.out.get (j := 2) rfl
  go_wp2_with fail
  refine (HS1.out _ HB.out HSL.out).mono ?_
  rintro e w9 ⟨rfl, b9⟩
  replace HB := hide (HB.out.trans (b9.mono HB.out.size))
  replace HSL := hide (HSL.out.later b9 (Nat.le_refl _))
  replace KE := hide (KE.out.later b9)
  replace KO := hide (KO.out.later b9)
  replace HKR := hide (HKR.out.later b9)
  clear b9 HS1
  have c0 := KE.out.get (j := 0) rfl
  have c1 := KE.out.get (j := 1) rfl
  have c2 := KE.out.get (j := 2) rfl
  have c3 := KE.out.get (j := 3) rfl
  have d0 := KO.out.get (j := 0) rfl
  have d1 := KO.out.get (j := 1) rfl
  have d2 := KO.out.get (j := 2) rfl
  have d3 := KO.out.get (j := 3) rfl
  have r0 := HKR.out.get (j := 0) rfl
  have r1 := HKR.out.get (j := 1) rfl
  have r2 := HKR.out.get (j := 2) rfl
  go_wp2_with fail
  refine (HS2.out _ HB.out HSL.out).mono ?_
  rintro e w10 ⟨rfl, b10⟩
  replace HB := hide (HB.out.trans (b10.mono HB.out.size))
  replace HSL := hide (HSL.out.later b10 (Nat.le_refl _))
  replace KE := hide (KE.out.later b10)
  replace KO := hide (KO.out.later b10)
  replace HKR := hide (HKR.out.later b10)
  clear b10 HS2
  have c0 := KE.out.get (j := 0) rfl
  have c1 := KE.out.get (j := 1) rfl
  have c2 := KE.out.get (j := 2) rfl
  have c3 := KE.out.get (j := 3) rfl
  have d0 := KO.out.get (j := 0) rfl
  have d1 := KO.out.get (j := 1) rfl
  have d2 := KO.out.get (j := 2) rfl
  have d3 := KO.out.get (j := 3) rfl
  have r0 := HKR.out.get (j := 0) rfl
  have r1 := HKR.out.get (j := 1) rfl
  have r2 := HKR.out.get (j := 2) rfl
  obtain ⟨m, hm⟩ : ∃ m : Nat, nn % 64 = m := ⟨(nn % 64).toNat, by omega⟩
  have hm63 : m ≤ 63 := by omega
  have hand : bits .and .i64 nn 63 = (m : Int) := by rw [i64_and63, hm]
  clear hm
  have hl0 := KE.out.lt
  have hl1 := KO.out.lt
  have hl2 := HKR.out.lt
  go_upto_region 11 with (fail)
  have hba : Below w10.heap.size w10 ((w10.alloc (.cells #[.int .i64 k, .int .i64 n, .string s, .slice ao a.length cap] 24)).alloc (.cells #[.int .i64 6, .int .i64 m, .string ⟨#[]⟩, .slice (some ⟨w10.heap.size, 0, none⟩) 1 1] 24)) := (((Below.refl _ _).alloc (by simp; try omega) _).alloc (by simp; try omega) _)
  have KA : Hid (Bk ((w10.alloc (.cells #[.int .i64 k, .int .i64 n, .string s, .slice ao a.length cap] 24)).alloc (.cells #[.int .i64 6, .int .i64 m, .string ⟨#[]⟩, .slice (some ⟨w10.heap.size, 0, none⟩) 1 1] 24)) (w10.heap.size) [.int .i64 k, .int .i64 n, .string s, .slice ao a.length cap]) := by
    have h0 := Bk.new (w := w10) (cs := #[.int .i64 k, .int .i64 n, .string s, .slice ao a.length cap]) (t := 24) rfl
    exact (h0.alloc _)
  have KL : Hid (Bk ((w10.alloc (.cells #[.int .i64 k, .int .i64 n, .string s, .slice ao a.length cap] 24)).alloc (.cells #[.int .i64 6, .int .i64 m, .string ⟨#[]⟩, .slice (some ⟨w10.heap.size, 0, none⟩) 1 1] 24)) (w10.heap.size + 1) [.int .i64 6, .int .i64 m, .string ⟨#[]⟩, .slice (some ⟨w10.heap.size, 0, none⟩) 1 1]) := by
    have h0 := Bk.new (w := (w10.alloc (.cells #[.int .i64 k, .int .i64 n, .string s, .slice ao a.length cap] 24))) (cs := #[.int .i64 6, .int .i64 m, .string ⟨#[]⟩, .slice (some ⟨w10.heap.size, 0, none⟩) 1 1]) (t := 24) rfl
    rw [show (w10.alloc (.cells #[.int .i64 k, .int .i64 n, .string s, .slice ao a.length cap] 24)).heap.size = w10.heap.size + 1 by simp] at h0
    exact h0
  replace HB := hide (HB.out.trans (hba.mono HB.out.size))
  replace HSL := hide (HSL.out.later hba (Nat.le_refl _))
  replace KE := hide (KE.out.later hba)
  replace KO := hide (KO.out.later hba)
  replace HKR := hide (HKR.out.later hba)
  have hsz : ((w10.alloc (.cells #[.int .i64 k, .int .i64 n, .string s, .slice ao a.length cap] 24)).alloc (.cells #[.int .i64 6, .int .i64 m, .string ⟨#[]⟩, .slice (some ⟨w10.heap.size, 0, none⟩) 1 1] 24)).heap.size = w10.heap.size + 1 + 1 := by simp
  generalize ((w10.alloc (.cells #[.int .i64 k, .int .i64 n, .string s, .slice ao a.length cap] 24)).alloc (.cells #[.int .i64 6, .int .i64 m, .string ⟨#[]⟩, .slice (some ⟨w10.heap.size, 0, none⟩) 1 1] 24)) = W11 at *
  clear hba
  obtain ⟨n10, hn10⟩ : ∃ q, w10.heap.size = q := ⟨_, rfl⟩
  rw [hn10] at KA KL
  rw [hn10]
  clear hn10 hl0 hl1 hl2 hsz
  have c0 := KE.out.get (j := 0) rfl
  have c1 := KE.out.get (j := 1) rfl
  have c2 := KE.out.get (j := 2) rfl
  have c3 := KE.out.get (j := 3) rfl
  have d0 := KO.out.get (j := 0) rfl
  have d1 := KO.out.get (j := 1) rfl
  have d2 := KO.out.get (j := 2) rfl
  have d3 := KO.out.get (j := 3) rfl
  have r0 := HKR.out.get (j := 0) rfl
  have r1 := HKR.out.get (j := 1) rfl
  have r2 := HKR.out.get (j := 2) rfl
  have hl0 := KE.out.lt
  have hl1 := KO.out.lt
  have hl2 := HKR.out.lt
  go_upto_region 12 with (fail)
  have hba : Below W11.heap.size W11 ((W11.alloc (.cells #[.int .i64 k, .int .i64 n, .string s, .slice ao a.length cap, .int .i64 k2, .int .i64 n2, .string s2, .slice ao2 a2.length cap2] 24)).alloc (.cells #[.int .i64 5, .int .i64 0, .string ⟨#[]⟩, .slice (some ⟨W11.heap.size, 0, none⟩) 2 2] 24)) := (((Below.refl _ _).alloc (by simp; try omega) _).alloc (by simp; try omega) _)
  have KC : Hid (Bk ((W11.alloc (.cells #[.int .i64 k, .int .i64 n, .string s, .slice ao a.length cap, .int .i64 k2, .int .i64 n2, .string s2, .slice ao2 a2.length cap2] 24)).alloc (.cells #[.int .i64 5, .int .i64 0, .string ⟨#[]⟩, .slice (some ⟨W11.heap.size, 0, none⟩) 2 2] 24)) (W11.heap.size) [.int .i64 k, .int .i64 n, .string s, .slice ao a.length cap, .int .i64 k2, .int .i64 n2, .string s2, .slice ao2 a2.length cap2]) := by
    have h0 := Bk.new (w := W11) (cs := #[.int .i64 k, .int .i64 n, .string s, .slice ao a.length cap, .int .i64 k2, .int .i64 n2, .string s2, .slice ao2 a2.length cap2]) (t := 24) rfl
    exact (h0.alloc _)
  have KM : Hid (Bk ((W11.alloc (.cells #[.int .i64 k, .int .i64 n, .string s, .slice ao a.length cap, .int .i64 k2, .int .i64 n2, .string s2, .slice ao2 a2.length cap2] 24)).alloc (.cells #[.int .i64 5, .int .i64 0, .string ⟨#[]⟩, .slice (some ⟨W11.heap.size, 0, none⟩) 2 2] 24)) (W11.heap.size + 1) [.int .i64 5, .int .i64 0, .string ⟨#[]⟩, .slice (some ⟨W11.heap.size, 0, none⟩) 2 2]) := by
    have h0 := Bk.new (w := (W11.alloc (.cells #[.int .i64 k, .int .i64 n, .string s, .slice ao a.length cap, .int .i64 k2, .int .i64 n2, .string s2, .slice ao2 a2.length cap2] 24))) (cs := #[.int .i64 5, .int .i64 0, .string ⟨#[]⟩, .slice (some ⟨W11.heap.size, 0, none⟩) 2 2]) (t := 24) rfl
    rw [show (W11.alloc (.cells #[.int .i64 k, .int .i64 n, .string s, .slice ao a.length cap, .int .i64 k2, .int .i64 n2, .string s2, .slice ao2 a2.length cap2] 24)).heap.size = W11.heap.size + 1 by simp] at h0
    exact h0
  replace HB := hide (HB.out.trans (hba.mono HB.out.size))
  replace HSL := hide (HSL.out.later hba (Nat.le_refl _))
  replace KE := hide (KE.out.later hba)
  replace KO := hide (KO.out.later hba)
  replace HKR := hide (HKR.out.later hba)
  replace KA := hide (KA.out.later hba)
  replace KL := hide (KL.out.later hba)
  have hsz : ((W11.alloc (.cells #[.int .i64 k, .int .i64 n, .string s, .slice ao a.length cap, .int .i64 k2, .int .i64 n2, .string s2, .slice ao2 a2.length cap2] 24)).alloc (.cells #[.int .i64 5, .int .i64 0, .string ⟨#[]⟩, .slice (some ⟨W11.heap.size, 0, none⟩) 2 2] 24)).heap.size = W11.heap.size + 1 + 1 := by simp
  generalize ((W11.alloc (.cells #[.int .i64 k, .int .i64 n, .string s, .slice ao a.length cap, .int .i64 k2, .int .i64 n2, .string s2, .slice ao2 a2.length cap2] 24)).alloc (.cells #[.int .i64 5, .int .i64 0, .string ⟨#[]⟩, .slice (some ⟨W11.heap.size, 0, none⟩) 2 2] 24)) = W12 at *
  clear hba
  obtain ⟨n11, hn11⟩ : ∃ q, W11.heap.size = q := ⟨_, rfl⟩
  rw [hn11] at KC KM
  rw [hn11]
  clear hn11 hl0 hl1 hl2 hsz
  have c0 := KE.out.get (j := 0) rfl
  have c1 := KE.out.get (j := 1) rfl
  have c2 := KE.out.get (j := 2) rfl
  have c3 := KE.out.get (j := 3) rfl
  have d0 := KO.out.get (j := 0) rfl
  have d1 := KO.out.get (j := 1) rfl
  have d2 := KO.out.get (j := 2) rfl
  have d3 := KO.out.get (j := 3) rfl
  have r0 := HKR.out.get (j := 0) rfl
  have r1 := HKR.out.get (j := 1) rfl
  have r2 := HKR.out.get (j := 2) rfl
  have hl0 := KE.out.lt
  have hl1 := KO.out.lt
  have hl2 := HKR.out.lt
  go_upto_region 13 with (fail)
  have hba : Below W12.heap.size W12 ((((W12.alloc (.cells #[.int .i64 k, .int .i64 n, .string s, .slice ao a.length cap] 24)).alloc (.cells #[.int .i64 k2, .int .i64 n2, .string s2, .slice ao2 a2.length cap2] 24)).alloc (.cells #[.int .i64 8, .int .i64 0, .string ⟨#[]⟩, .slice (some ⟨W12.heap.size, 0, none⟩) 1 1, .int .i64 8, .int .i64 0, .string ⟨#[]⟩, .slice (some ⟨W12.heap.size + 1, 0, none⟩) 1 1] 24)).alloc (.cells #[.int .i64 10, .int .i64 0, .string ⟨#[]⟩, .slice (some ⟨W12.heap.size + 1 + 1, 0, none⟩) 2 2] 24)) := (((((Below.refl _ _).alloc (by simp; try omega) _).alloc (by simp; try omega) _).alloc (by simp; try omega) _).alloc (by simp; try omega) _)
  have KD0 : Hid (Bk ((((W12.alloc (.cells #[.int .i64 k, .int .i64 n, .string s, .slice ao a.length cap] 24)).alloc (.cells #[.int .i64 k2, .int .i64 n2, .string s2, .slice ao2 a2.length cap2] 24)).alloc (.cells #[.int .i64 8, .int .i64 0, .string ⟨#[]⟩, .slice (some ⟨W12.heap.size, 0, none⟩) 1 1, .int .i64 8, .int .i64 0, .string ⟨#[]⟩, .slice (some ⟨W12.heap.size + 1, 0, none⟩) 1 1] 24)).alloc (.cells #[.int .i64 10, .int .i64 0, .string ⟨#[]⟩, .slice (some ⟨W12.heap.size + 1 + 1, 0, none⟩) 2 2] 24)) (W12.heap.size) [.int .i64 k, .int .i64 n, .string s, .slice ao a.length cap]) := by
    have h0 := Bk.new (w := W12) (cs := #[.int .i64 k, .int .i64 n, .string s, .slice ao a.length cap]) (t := 24) rfl
    exact (((h0.alloc _).alloc _).alloc _)
  have KD1 : Hid (Bk ((((W12.alloc (.cells #[.int .i64 k, .int .i64 n, .string s, .slice ao a.length cap] 24)).alloc (.cells #[.int .i64 k2, .int .i64 n2, .string s2, .slice ao2 a2.length cap2] 24)).alloc (.cells #[.int .i64 8, .int .i64 0, .string ⟨#[]⟩, .slice (some ⟨W12.heap.size, 0, none⟩) 1 1, .int .i64 8, .int .i64 0, .string ⟨#[]⟩, .slice (some ⟨W12.heap.size + 1, 0, none⟩) 1 1] 24)).alloc (.cells #[.int .i64 10, .int .i64 0, .string ⟨#[]⟩, .slice (some ⟨W12.heap.size + 1 + 1, 0, none⟩) 2 2] 24)) (W12.heap.size + 1) [.int .i64 k2, .int .i64 n2, .string s2, .slice ao2 a2.length cap2]) := by
    have h0 := Bk.new (w := (W12.alloc (.cells #[.int .i64 k, .int .i64 n, .string s, .slice ao a.length cap] 24))) (cs := #[.int .i64 k2, .int .i64 n2, .string s2, .slice ao2 a2.length cap2]) (t := 24) rfl
    rw [show (W12.alloc (.cells #[.int .i64 k, .int .i64 n, .string s, .slice ao a.length cap] 24)).heap.size = W12.heap.size + 1 by simp] at h0
    exact ((h0.alloc _).alloc _)
  have KD2 : Hid (Bk ((((W12.alloc (.cells #[.int .i64 k, .int .i64 n, .string s, .slice ao a.length cap] 24)).alloc (.cells #[.int .i64 k2, .int .i64 n2, .string s2, .slice ao2 a2.length cap2] 24)).alloc (.cells #[.int .i64 8, .int .i64 0, .string ⟨#[]⟩, .slice (some ⟨W12.heap.size, 0, none⟩) 1 1, .int .i64 8, .int .i64 0, .string ⟨#[]⟩, .slice (some ⟨W12.heap.size + 1, 0, none⟩) 1 1] 24)).alloc (.cells #[.int .i64 10, .int .i64 0, .string ⟨#[]⟩, .slice (some ⟨W12.heap.size + 1 + 1, 0, none⟩) 2 2] 24)) (W12.heap.size + 1 + 1) [.int .i64 8, .int .i64 0, .string ⟨#[]⟩, .slice (some ⟨W12.heap.size, 0, none⟩) 1 1, .int .i64 8, .int .i64 0, .string ⟨#[]⟩, .slice (some ⟨W12.heap.size + 1, 0, none⟩) 1 1]) := by
    have h0 := Bk.new (w := ((W12.alloc (.cells #[.int .i64 k, .int .i64 n, .string s, .slice ao a.length cap] 24)).alloc (.cells #[.int .i64 k2, .int .i64 n2, .string s2, .slice ao2 a2.length cap2] 24))) (cs := #[.int .i64 8, .int .i64 0, .string ⟨#[]⟩, .slice (some ⟨W12.heap.size, 0, none⟩) 1 1, .int .i64 8, .int .i64 0, .string ⟨#[]⟩, .slice (some ⟨W12.heap.size + 1, 0, none⟩) 1 1]) (t := 24) rfl
    rw [show ((W12.alloc (.cells #[.int .i64 k, .int .i64 n, .string s, .slice ao a.length cap] 24)).alloc (.cells #[.int .i64 k2, .int .i64 n2, .string s2, .slice ao2 a2.length cap2] 24)).heap.size = W12.heap.size + 1 + 1 by simp] at h0
    exact (h0.alloc _)
  have KS : Hid (Bk ((((W12.alloc (.cells #[.int .i64 k, .int .i64 n, .string s, .slice ao a.length cap] 24)).alloc (.cells #[.int .i64 k2, .int .i64 n2, .string s2, .slice ao2 a2.length cap2] 24)).alloc (.cells #[.int .i64 8, .int .i64 0, .string ⟨#[]⟩, .slice (some ⟨W12.heap.size, 0, none⟩) 1 1, .int .i64 8, .int .i64 0, .string ⟨#[]⟩, .slice (some ⟨W12.heap.size + 1, 0, none⟩) 1 1] 24)).alloc (.cells #[.int .i64 10, .int .i64 0, .string ⟨#[]⟩, .slice (some ⟨W12.heap.size + 1 + 1, 0, none⟩) 2 2] 24)) (W12.heap.size + 1 + 1 + 1) [.int .i64 10, .int .i64 0, .string ⟨#[]⟩, .slice (some ⟨W12.heap.size + 1 + 1, 0, none⟩) 2 2]) := by
    have h0 := Bk.new (w := (((W12.alloc (.cells #[.int .i64 k, .int .i64 n, .string s, .slice ao a.length cap] 24)).alloc (.cells #[.int .i64 k2, .int .i64 n2, .string s2, .slice ao2 a2.length cap2] 24)).alloc (.cells #[.int .i64 8, .int .i64 0, .string ⟨#[]⟩, .slice (some ⟨W12.heap.size, 0, none⟩) 1 1, .int .i64 8, .int .i64 0, .string ⟨#[]⟩, .slice (some ⟨W12.heap.size + 1, 0, none⟩) 1 1] 24))) (cs := #[.int .i64 10, .int .i64 0, .string ⟨#[]⟩, .slice (some ⟨W12.heap.size + 1 + 1, 0, none⟩) 2 2]) (t := 24) rfl
    rw [show (((W12.alloc (.cells #[.int .i64 k, .int .i64 n, .string s, .slice ao a.length cap] 24)).alloc (.cells #[.int .i64 k2, .int .i64 n2, .string s2, .slice ao2 a2.length cap2] 24)).alloc (.cells #[.int .i64 8, .int .i64 0, .string ⟨#[]⟩, .slice (some ⟨W12.heap.size, 0, none⟩) 1 1, .int .i64 8, .int .i64 0, .string ⟨#[]⟩, .slice (some ⟨W12.heap.size + 1, 0, none⟩) 1 1] 24)).heap.size = W12.heap.size + 1 + 1 + 1 by simp] at h0
    exact h0
  replace HB := hide (HB.out.trans (hba.mono HB.out.size))
  replace HSL := hide (HSL.out.later hba (Nat.le_refl _))
  replace KE := hide (KE.out.later hba)
  replace KO := hide (KO.out.later hba)
  replace HKR := hide (HKR.out.later hba)
  replace KA := hide (KA.out.later hba)
  replace KL := hide (KL.out.later hba)
  replace KC := hide (KC.out.later hba)
  replace KM := hide (KM.out.later hba)
  generalize ((((W12.alloc (.cells #[.int .i64 k, .int .i64 n, .string s, .slice ao a.length cap] 24)).alloc (.cells #[.int .i64 k2, .int .i64 n2, .string s2, .slice ao2 a2.length cap2] 24)).alloc (.cells #[.int .i64 8, .int .i64 0, .string ⟨#[]⟩, .slice (some ⟨W12.heap.size, 0, none⟩) 1 1, .int .i64 8, .int .i64 0, .string ⟨#[]⟩, .slice (some ⟨W12.heap.size + 1, 0, none⟩) 1 1] 24)).alloc (.cells #[.int .i64 10, .int .i64 0, .string ⟨#[]⟩, .slice (some ⟨W12.heap.size + 1 + 1, 0, none⟩) 2 2] 24)) = W13 at *
  clear hba
  obtain ⟨n12, hn12⟩ : ∃ q, W12.heap.size = q := ⟨_, rfl⟩
  rw [hn12] at KD0 KD1 KD2 KS
  rw [hn12]
  clear hn12 hl0 hl1 hl2
  have hEE := H0E.out.later HB.out (Nat.le_refl _)
  have hOO := H0O.out.later HB.out (Nat.le_refl _)
  have hLs : ExAt W13 (d + 1) (.mk 6 m ⟨#[]⟩ [.mk k n s a]) (encX 6 m ⟨#[]⟩ (some ⟨n10, 0, none⟩) 1 1) := ExAt.node (by decide) (by omega) (by simp) (kids1 KA.out hEE)
  have hMr : ExAt W13 (d + 1) (.mk 5 0 ⟨#[]⟩ [.mk k n s a, .mk k2 n2 s2 a2]) (encX 5 0 ⟨#[]⟩ (some ⟨n11, 0, none⟩) 2 2) := ExAt.node (by decide) (by decide) (by simp) (kids2 (q := encX k n s ao a.length cap) (r := encX k2 n2 s2 ao2 a2.length cap2) rfl KC.out hEE hOO)
  have hE8 : ExAt W13 (d + 1) (.mk 8 0 ⟨#[]⟩ [.mk k n s a]) (encX 8 0 ⟨#[]⟩ (some ⟨n12, 0, none⟩) 1 1) := ExAt.node (by decide) (by decide) (by simp) (kids1 KD0.out hEE)
  have hO8 : ExAt W13 (d + 1) (.mk 8 0 ⟨#[]⟩ [.mk k2 n2 s2 a2]) (encX 8 0 ⟨#[]⟩ (some ⟨n12 + 1, 0, none⟩) 1 1) := ExAt.node (by decide) (by decide) (by simp) (kids1 KD1.out hOO)
  have hSm : ExAt W13 (d + 1 + 1) (.mk 10 0 ⟨#[]⟩ [.mk 8 0 ⟨#[]⟩ [.mk k n s a], .mk 8 0 ⟨#[]⟩ [.mk k2 n2 s2 a2]]) (encX 10 0 ⟨#[]⟩ (some ⟨n12 + 1 + 1, 0, none⟩) 2 2) := ExAt.node (by decide) (by decide) (by simp) (kids2 (q := encX 8 0 ⟨#[]⟩ (some ⟨n12, 0, none⟩) 1 1) (r := encX 8 0 ⟨#[]⟩ (some ⟨n12 + 1, 0, none⟩) 1 1) rfl KD2.out hE8 hO8)
  have HLs := hide hLs
  have HMr := hide hMr
  have HSm := hide hSm
  clear hEE hOO hLs hMr hE8 hO8 hSm KA KC KD0 KD1 KD2
  have HBZ : Hid (Below W13.heap.size W13 W13) := Below.refl _ _
  have HC3 : Hid (∀ w', Below W13.heap.size W13 w' → Calls Tryd.prog 16 #[.agg #[.int .i64 6, .int .i64 m, .string ⟨#[]⟩, .slice (some ⟨n10, 0, none⟩) 1 1], .bool true, .bool false] w' fun e w'' => e = .returned (errV (faultE (.mk 6 m ⟨#[]⟩ [.mk k n s a]) true false)) ∧ Below w'.heap.size w' w'') := fun w' hb => Check_any (d + 1) 6 m ⟨#[]⟩ [.mk k n s a] (some ⟨n10, 0, none⟩) 1 w' true false (HLs.out.later hb (Nat.le_refl _))
  have HC4 : Hid (∀ w', Below W13.heap.size W13 w' → Calls Tryd.prog 16 #[.agg #[.int .i64 5, .int .i64 0, .string ⟨#[]⟩, .slice (some ⟨n11, 0, none⟩) 2 2], .bool true, .bool false] w' fun e w'' => e = .returned (errV (faultE (.mk 5 0 ⟨#[]⟩ [.mk k n s a, .mk k2 n2 s2 a2]) true false)) ∧ Below w'.heap.size w' w'') := fun w' hb => Check_any (d + 1) 5 0 ⟨#[]⟩ [.mk k n s a, .mk k2 n2 s2 a2] (some ⟨n11, 0, none⟩) 2 w' true false (HMr.out.later hb (Nat.le_refl _))
  have HC5 : Hid (∀ w', Below W13.heap.size W13 w' → Calls Tryd.prog 16 #[.agg #[.int .i64 10, .int .i64 0, .string ⟨#[]⟩, .slice (some ⟨n12 + 1 + 1, 0, none⟩) 2 2], .bool false, .bool false] w' fun e w'' => e = .returned (errV (faultE (.mk 10 0 ⟨#[]⟩ [.mk 8 0 ⟨#[]⟩ [.mk k n s a], .mk 8 0 ⟨#[]⟩ [.mk k2 n2 s2 a2]]) false false)) ∧ Below w'.heap.size w' w'') := fun w' hb => Check_any (d + 1 + 1) 10 0 ⟨#[]⟩ [.mk 8 0 ⟨#[]⟩ [.mk k n s a], .mk 8 0 ⟨#[]⟩ [.mk k2 n2 s2 a2]] (some ⟨n12 + 1 + 1, 0, none⟩) 2 w' false false (HSm.out.later hb (Nat.le_refl _))
  have hf3 := faultE_nn (.mk 6 m ⟨#[]⟩ [.mk k n s a]) true false
  have hf4 := faultE_nn (.mk 5 0 ⟨#[]⟩ [.mk k n s a, .mk k2 n2 s2 a2]) true false
  have hf5 := faultE_nn (.mk 10 0 ⟨#[]⟩ [.mk 8 0 ⟨#[]⟩ [.mk k n s a], .mk 8 0 ⟨#[]⟩ [.mk k2 n2 s2 a2]]) false false
  generalize hfe3 : faultE (.mk 6 m ⟨#[]⟩ [.mk k n s a]) true false = fe3 at *
  generalize hfe4 : faultE (.mk 5 0 ⟨#[]⟩ [.mk k n s a, .mk k2 n2 s2 a2]) true false = fe4 at *
  generalize hfe5 : faultE (.mk 10 0 ⟨#[]⟩ [.mk 8 0 ⟨#[]⟩ [.mk k n s a], .mk 8 0 ⟨#[]⟩ [.mk k2 n2 s2 a2]]) false false = fe5 at *
  have HFE3 := hide hfe3
  have HFE4 := hide hfe4
  have HFE5 := hide hfe5
  clear hfe3 hfe4 hfe5 KE KO
  have l0 := KL.out.get (j := 0) rfl
  have l1 := KL.out.get (j := 1) rfl
  have l2 := KL.out.get (j := 2) rfl
  have l3 := KL.out.get (j := 3) rfl
  have m0 := KM.out.get (j := 0) rfl
  have m1 := KM.out.get (j := 1) rfl
  have m2 := KM.out.get (j := 2) rfl
  have m3 := KM.out.get (j := 3) rfl
  have q0 := KS.out.get (j := 0) rfl
  have q1 := KS.out.get (j := 1) rfl
  have q2 := KS.out.get (j := 2) rfl
  have q3 := KS.out.get (j := 3) rfl
  have r0 := HKR.out.get (j := 0) rfl
  have r1 := HKR.out.get (j := 1) rfl
  have r2 := HKR.out.get (j := 2) rfl
  go_wp2_with fail
  refine (HC3.out _ HBZ.out).mono ?_
  rintro e w14 ⟨rfl, b14⟩
  replace HB := hide (HB.out.trans (b14.mono HB.out.size))
  replace HBZ := hide (HBZ.out.trans (b14.mono HBZ.out.size))
  replace HSL := hide (HSL.out.later b14 (Nat.le_refl _))
  replace HKR := hide (HKR.out.later b14)
  replace KL := hide (KL.out.later b14)
  replace KM := hide (KM.out.later b14)
  replace KS := hide (KS.out.later b14)
  clear b14 HC3
  rcases errV_ne fe3 hf3 with ⟨hz3, he3⟩ | ⟨hz3, he3⟩
  case inr =>
    rw [he3]
    go_wp2
    go_ret
    exact ⟨rfl, HB.out⟩
  rw [he3]
  have l0 := KL.out.get (j := 0) rfl
  have l1 := KL.out.get (j := 1) rfl
  have l2 := KL.out.get (j := 2) rfl
  have l3 := KL.out.get (j := 3) rfl
  have m0 := KM.out.get (j := 0) rfl
  have m1 := KM.out.get (j := 1) rfl
  have m2 := KM.out.get (j := 2) rfl
  have m3 := KM.out.get (j := 3) rfl
  have q0 := KS.out.get (j := 0) rfl
  have q1 := KS.out.get (j := 1) rfl
  have q2 := KS.out.get (j := 2) rfl
  have q3 := KS.out.get (j := 3) rfl
  go_wp2_with fail
  refine (HC4.out _ HBZ.out).mono ?_
  rintro e w15 ⟨rfl, b15⟩
  replace HB := hide (HB.out.trans (b15.mono HB.out.size))
  replace HBZ := hide (HBZ.out.trans (b15.mono HBZ.out.size))
  replace HSL := hide (HSL.out.later b15 (Nat.le_refl _))
  replace HKR := hide (HKR.out.later b15)
  replace KL := hide (KL.out.later b15)
  replace KM := hide (KM.out.later b15)
  replace KS := hide (KS.out.later b15)
  clear b15 HC4
  rcases errV_ne fe4 hf4 with ⟨hz4, he4⟩ | ⟨hz4, he4⟩
  case inr =>
    rw [he4]
    go_wp2
    go_ret
    exact ⟨rfl, HB.out⟩
  rw [he4]
  have l0 := KL.out.get (j := 0) rfl
  have l1 := KL.out.get (j := 1) rfl
  have l2 := KL.out.get (j := 2) rfl
  have l3 := KL.out.get (j := 3) rfl
  have m0 := KM.out.get (j := 0) rfl
  have m1 := KM.out.get (j := 1) rfl
  have m2 := KM.out.get (j := 2) rfl
  have m3 := KM.out.get (j := 3) rfl
  have q0 := KS.out.get (j := 0) rfl
  have q1 := KS.out.get (j := 1) rfl
  have q2 := KS.out.get (j := 2) rfl
  have q3 := KS.out.get (j := 3) rfl
  go_wp2_with fail
  refine (HC5.out _ HBZ.out).mono ?_
  rintro e w16 ⟨rfl, b16⟩
  replace HB := hide (HB.out.trans (b16.mono HB.out.size))
  replace HBZ := hide (HBZ.out.trans (b16.mono HBZ.out.size))
  replace HSL := hide (HSL.out.later b16 (Nat.le_refl _))
  replace HKR := hide (HKR.out.later b16)
  replace KL := hide (KL.out.later b16)
  replace KM := hide (KM.out.later b16)
  replace KS := hide (KS.out.later b16)
  clear b16 HC5
  rcases errV_ne fe5 hf5 with ⟨hz5, he5⟩ | ⟨hz5, he5⟩
  case inr =>
    rw [he5]
    go_wp2
    go_ret
    exact ⟨rfl, HB.out⟩
  rw [he5]
  have hw3 := fault_zero (e := .mk 6 m ⟨#[]⟩ [.mk k n s a]) (text := true) (each := false) (by rw [HFE3.out, hz3])
  have hw4 := fault_zero (e := .mk 5 0 ⟨#[]⟩ [.mk k n s a, .mk k2 n2 s2 a2]) (text := true) (each := false) (by rw [HFE4.out, hz4])
  have hw5 := fault_zero (e := .mk 10 0 ⟨#[]⟩ [.mk 8 0 ⟨#[]⟩ [.mk k n s a], .mk 8 0 ⟨#[]⟩ [.mk k2 n2 s2 a2]]) (text := false) (each := false) (by rw [HFE5.out, hz5])
  have HW3 := hide hw3
  have HW4 := hide hw4
  have HW5 := hide hw5
  clear hw3 hw4 hw5 hf3 hf4 hf5 HFE3 HFE4 HFE5 hz3 hz4 hz5 he3 he4 he5
  have hs3 : strE (.mk 6 m ⟨#[]⟩ [.mk k n s a]) line ⟨#[]⟩ ws = X.extract 0 (min m X.size) := by
    rw [strE, strL, strL, HXX.out]; rfl
  have hs4 : strE (.mk 5 0 ⟨#[]⟩ [.mk k n s a, .mk k2 n2 s2 a2]) line ⟨#[]⟩ ws = X ++ Y := by
    rw [strE, strL, strL, strL, HXX.out, HYY.out]; rfl
  have hs5 : intE (.mk 10 0 ⟨#[]⟩ [.mk 8 0 ⟨#[]⟩ [.mk k n s a], .mk 8 0 ⟨#[]⟩ [.mk k2 n2 s2 a2]]) line ⟨#[]⟩ ws = (X.size : Int) + (Y.size : Int) := by
    rw [intE, intL, intL, intL, int_len, int_len, HXX.out, HYY.out]
    exact IntWalk.i64_in _ (by have h1 : X.size ≤ 1000000 := hxz; have h2 : Y.size ≤ 1000000 := hyz; constructor <;> (simp; omega))
  have HQ3 := hide fun w' (hb : Below W13.heap.size W13 w') (hsl : Sl 1 encS w' a7 ws) => Str_any line ⟨#[]⟩ a7 q7 ws false HWL.out HBS (d + 1) 6 m ⟨#[]⟩ [.mk k n s a] (some ⟨n10, 0, none⟩) 1 w' (HLs.out.later hb (Nat.le_refl _)) HW3.out.1 (by have := HW3.out.2; omega) hsl
  have HQ4 := hide fun w' (hb : Below W13.heap.size W13 w') (hsl : Sl 1 encS w' a7 ws) => Str_any line ⟨#[]⟩ a7 q7 ws false HWL.out HBS (d + 1) 5 0 ⟨#[]⟩ [.mk k n s a, .mk k2 n2 s2 a2] (some ⟨n11, 0, none⟩) 2 w' (HMr.out.later hb (Nat.le_refl _)) HW4.out.1 (by have := HW4.out.2; omega) hsl
  have HQ5 := hide fun w' (hb : Below W13.heap.size W13 w') (hsl : Sl 1 encS w' a7 ws) => Int_any line ⟨#[]⟩ a7 q7 ws false HWL.out HBS (d + 1 + 1) 10 0 ⟨#[]⟩ [.mk 8 0 ⟨#[]⟩ [.mk k n s a], .mk 8 0 ⟨#[]⟩ [.mk k2 n2 s2 a2]] (some ⟨n12 + 1 + 1, 0, none⟩) 2 w' (HSm.out.later hb (Nat.le_refl _)) HW5.out.1 (by have := HW5.out.2; omega) hsl
  rw [hs3] at HQ3
  rw [hs4] at HQ4
  rw [hs5] at HQ5
  simp only [List.length_cons, List.length_nil, Nat.zero_add, Nat.reduceAdd] at HQ3 HQ4 HQ5
  have hzx : X.size ≤ 1000000 := hxz
  have hzy : Y.size ≤ 1000000 := hyz
  have hZ1 : (X.extract 0 (min m X.size)).size = min m X.size := by rw [ByteArray.size_extract]; omega
  have hZ2 : X.extract 0 (X.extract 0 (min m X.size)).size = X.extract 0 (min m X.size) := by rw [hZ1]
  obtain ⟨Z, hZ⟩ : ∃ Z, X.extract 0 (min m X.size) = Z := ⟨_, rfl⟩
  rw [hZ] at HQ3 hZ1 hZ2
  have HZ1 := hide hZ1
  have HZ2 := hide hZ2
  clear hs3 hs4 hs5 HW3 HW4 HW5 HLs HMr HSm HXX HYY hZ hZ1 hZ2 hxz hyz
  have l0 := KL.out.get (j := 0) rfl
  have l1 := KL.out.get (j := 1) rfl
  have l2 := KL.out.get (j := 2) rfl
  have l3 := KL.out.get (j := 3) rfl
  have m0 := KM.out.get (j := 0) rfl
  have m1 := KM.out.get (j := 1) rfl
  have m2 := KM.out.get (j := 2) rfl
  have m3 := KM.out.get (j := 3) rfl
  have q0 := KS.out.get (j := 0) rfl
  have q1 := KS.out.get (j := 1) rfl
  have q2 := KS.out.get (j := 2) rfl
  have q3 := KS.out.get (j := 3) rfl
  have r0 := HKR.out.get (j := 0) rfl
  have r1 := HKR.out.get (j := 1) rfl
  have r2 := HKR.out.get (j := 2) rfl
  go_wp2_with fail
  refine (HQ3.out _ HBZ.out HSL.out).mono ?_
  rintro e w17 ⟨rfl, b17⟩
  replace HB := hide (HB.out.trans (b17.mono HB.out.size))
  replace HBZ := hide (HBZ.out.trans (b17.mono HBZ.out.size))
  replace HSL := hide (HSL.out.later b17 (Nat.le_refl _))
  replace HKR := hide (HKR.out.later b17)
  replace KL := hide (KL.out.later b17)
  replace KM := hide (KM.out.later b17)
  replace KS := hide (KS.out.later b17)
  clear b17 HQ3
  have l0 := KL.out.get (j := 0) rfl
  have l1 := KL.out.get (j := 1) rfl
  have l2 := KL.out.get (j := 2) rfl
  have l3 := KL.out.get (j := 3) rfl
  have m0 := KM.out.get (j := 0) rfl
  have m1 := KM.out.get (j := 1) rfl
  have m2 := KM.out.get (j := 2) rfl
  have m3 := KM.out.get (j := 3) rfl
  have q0 := KS.out.get (j := 0) rfl
  have q1 := KS.out.get (j := 1) rfl
  have q2 := KS.out.get (j := 2) rfl
  have q3 := KS.out.get (j := 3) rfl
  have r0 := HKR.out.get (j := 0) rfl
  have r1 := HKR.out.get (j := 1) rfl
  have r2 := HKR.out.get (j := 2) rfl
  go_wp2_with fail
  refine (HQ4.out _ HBZ.out HSL.out).mono ?_
  rintro e w18 ⟨rfl, b18⟩
  replace HB := hide (HB.out.trans (b18.mono HB.out.size))
  replace HBZ := hide (HBZ.out.trans (b18.mono HBZ.out.size))
  replace HSL := hide (HSL.out.later b18 (Nat.le_refl _))
  replace HKR := hide (HKR.out.later b18)
  replace KL := hide (KL.out.later b18)
  replace KM := hide (KM.out.later b18)
  replace KS := hide (KS.out.later b18)
  clear b18 HQ4
  have l0 := KL.out.get (j := 0) rfl
  have l1 := KL.out.get (j := 1) rfl
  have l2 := KL.out.get (j := 2) rfl
  have l3 := KL.out.get (j := 3) rfl
  have m0 := KM.out.get (j := 0) rfl
  have m1 := KM.out.get (j := 1) rfl
  have m2 := KM.out.get (j := 2) rfl
  have m3 := KM.out.get (j := 3) rfl
  have q0 := KS.out.get (j := 0) rfl
  have q1 := KS.out.get (j := 1) rfl
  have q2 := KS.out.get (j := 2) rfl
  have q3 := KS.out.get (j := 3) rfl
  have r0 := HKR.out.get (j := 0) rfl
  have r1 := HKR.out.get (j := 1) rfl
  have r2 := HKR.out.get (j := 2) rfl
  have hadd : ¬ (9223372036854775807 < X.size + Y.size) := by omega
  have hbq := beqq (X ++ Y)
  go_wp2_with fail
  refine (HQ5.out _ HBZ.out HSL.out).mono ?_
  rintro e w19 ⟨rfl, b19⟩
  replace HB := hide (HB.out.trans (b19.mono HB.out.size))
  replace HBZ := hide (HBZ.out.trans (b19.mono HBZ.out.size))
  clear b19 HQ5
  have hzm : ((Z.size : Int) == min (m : Int) (X.size : Int)) = true := by rw [beq_iff_eq, HZ1.out]; omega
  have hzb : (0 : Int) ≤ (Z.size : Int) ∧ (Z.size : Int) ≤ (X.size : Int) := by have := HZ1.out; omega
  obtain ⟨hzb1, hzb2⟩ := hzb
  have hzb3 : Z.size ≤ X.size := by omega
  have hze := HZ2.out
  have hbz := beqq Z
  go_wp2
  go_ret
  exact ⟨rfl, HB.out⟩
end Go.Proofs.YtkodbldfoldbjaaDoor
