/- Expressions: how heavy (law.weight), how many and how deep (expr.size, ref.parts). -/
import Derived.Test.YtgeedjlbajmdkaaGreatDoorWords
import Derived.Test.YtgeedjlbajmdkaaGreatDoorFold
import Derived.Lib.SmallJoins
set_option linter.unusedSimpArgs false
set_option linter.unusedVariables false
/- Expressions as plain trees; how they lie in memory; from the form's reading to trees. -/
namespace Go.Proofs.YtgeedjlbajmdkaaGreatDoor
open Go.RowKit Go.ChangeShapes Go.WideShapes Go.ChangeAt

inductive ExprV where
  | mk (k n : Int) (s : ByteArray) (a : List ExprV)
instance : Inhabited ExprV := ⟨.mk 0 0 ByteArray.empty []⟩
mutual
/-- so many expressions are in it -/
def ExprV.nodes : ExprV → Nat
  | .mk _ _ _ a => 1 + ExprV.nodesL a
def ExprV.nodesL : List ExprV → Nat
  | [] => 0
  | x :: l => ExprV.nodes x + ExprV.nodesL l
end
mutual
def ExprV.deep : ExprV → Nat
  | .mk _ _ _ a => ExprV.deepL a + 1
def ExprV.deepL : List ExprV → Nat
  | [] => 0
  | x :: l => max (ExprV.deep x) (ExprV.deepL l)
end
/-- the four places of one -/
def encX (k n : Int) (s : ByteArray) (ao : Option Addr) (len cap : Nat) : List Value := [.int .i64 k, .int .i64 n, .string s, .slice ao len cap]
def KidsAt (E : ExprV → List Value → Prop) (w : World) (ao : Option Addr) (a : List ExprV) : Prop :=
  ∀ (i : Nat) x, a[i]? = some x → ∃ b off q, ao = some ⟨b, off, none⟩ ∧ b < w.heap.size ∧ (∀ (j : Nat) u, q[j]? = some u → w.cell? ⟨b, off + i * 4 + j, none⟩ = some u) ∧ E x q
/-- a tree of at most so many floors lies in these places -/
def ExAt (w : World) : Nat → ExprV → List Value → Prop
  | 0, _, _ => False
  | d + 1, .mk k n s a, cs => ∃ ao cap, cs = encX k n s ao a.length cap ∧ (-9223372036854775808 ≤ k ∧ k ≤ 9223372036854775807) ∧ (-9223372036854775808 ≤ n ∧ n ≤ 9223372036854775807) ∧ s.size ≤ maxLen ∧ a.length ≤ maxLen ∧ KidsAt (ExAt w d) w ao a
theorem KidsAt.mono {E E' : ExprV → List Value → Prop} {w w' : World} {ao : Option Addr} {a : List ExprV} (h : KidsAt E w ao a) (hE : ∀ x q, E x q → E' x q) {B : Nat} (hb : Below B w w') (hB : w.heap.size ≤ B) : KidsAt E' w' ao a := by
  intro i x hi
  obtain ⟨b, off, q, e, hlt, hc, hq⟩ := h i x hi
  refine ⟨b, off, q, e, by have := hb.size; omega, fun j u hj => ?_, hE _ _ hq⟩
  rw [hb.cell (p := ⟨b, off + i * 4 + j, none⟩) (by show b < B; omega)]; exact hc j u hj
theorem ExAt.later {w w' : World} {B : Nat} (hb : Below B w w') (hB : w.heap.size ≤ B) : ∀ {d : Nat} {e : ExprV} {cs : List Value}, ExAt w d e cs → ExAt w' d e cs
  | 0, _, _, h => h
  | d + 1, .mk k n s a, cs, h => by
    obtain ⟨ao, cap, e, h1, h2, h3, h4, h5⟩ := h
    exact ⟨ao, cap, e, h1, h2, h3, h4, h5.mono (fun x q hq => ExAt.later hb hB hq) hb hB⟩
/-- a child -/
theorem KidsAt.kid {w : World} {d : Nat} {ao : Option Addr} {a : List ExprV} (h : KidsAt (ExAt w d) w ao a) {i : Nat} (hi : i < a.length) :
    ∃ b off d' k n s l ao' cap', ao = some ⟨b, off, none⟩ ∧ b < w.heap.size ∧ d = d' + 1 ∧ a[i]? = some (.mk k n s l) ∧ ExAt w d (.mk k n s l) (encX k n s ao' l.length cap') ∧
      w.cell? ⟨b, off + i * 4, none⟩ = some (.int .i64 k) ∧ w.cell? ⟨b, off + i * 4 + 1, none⟩ = some (.int .i64 n) ∧ w.cell? ⟨b, off + i * 4 + 2, none⟩ = some (.string s) ∧ w.cell? ⟨b, off + i * 4 + 3, none⟩ = some (.slice ao' l.length cap') := by
  obtain ⟨b, off, q, e, hlt, hc, hq⟩ := h i _ (List.getElem?_eq_getElem hi)
  obtain ⟨x, hx⟩ : ∃ x, a[i] = x := ⟨_, rfl⟩
  rw [hx] at hq
  cases d with
  | zero => exact hq.elim
  | succ d' =>
    obtain ⟨k, n, s, l⟩ := x
    have hq' := hq
    obtain ⟨ao', cap', rfl, _⟩ := hq
    exact ⟨b, off, d', k, n, s, l, ao', cap', e, hlt, rfl, by rw [List.getElem?_eq_getElem hi, hx], hq', hc 0 _ rfl, hc 1 _ rfl, hc 2 _ rfl, hc 3 _ rfl⟩
theorem cells_expr : Tryz.prog.cellsOf 67 = 4 := by kernel_rfl
theorem cells_exprs : Tryz.prog.cellsOf 65 = 1 := by kernel_rfl
theorem cells_txt : Tryz.prog.cellsOf 9 = 1 := by kernel_rfl
theorem bulk_one {H : Type} (d : DataW H) : 1 ≤ Rows.uptoBulk d := by
  cases d with
  | lit l => cases l <;> simp [Rows.uptoBulk]
  | nil => simp [Rows.uptoBulk]
  | ptr d => simp [Rows.uptoBulk]
  | slice elems spare => simp [Rows.uptoBulk]
  | agg parts => simp [Rows.uptoBulk]
  | iface t d => simp [Rows.uptoBulk]
  | map entries => simp [Rows.uptoBulk]
  | held h => simp [Rows.uptoBulk]
theorem bulk_range {H : Type} (f : Nat → Nat) (D : Nat → DataW H) : ∀ (n : Nat), (∀ i, i < n → f i ≤ Rows.uptoBulk (D i)) → ((List.range n).map f).sum ≤ Rows.uptoBulkAll ((List.range n).map D) := by
  intro n
  have app : ∀ l r : List (DataW H), Rows.uptoBulkAll (l ++ r) = Rows.uptoBulkAll l + Rows.uptoBulkAll r := by
    intro l r
    induction l with
    | nil => simp [Rows.uptoBulkAll]
    | cons x l ih => simp only [List.cons_append, Rows.uptoBulkAll, ih]; omega
  induction n with
  | zero => intro _; simp
  | succ n ih =>
    intro h
    rw [List.range_succ, List.map_append, List.map_append, app, List.sum_append]
    have h1 := ih fun i hi => h i (by omega)
    have h2 := h n (by omega)
    simp [Rows.uptoBulkAll]
    omega
theorem bulk_mem {H : Type} (D : Nat → DataW H) {n i : Nat} (hi : i < n) : Rows.uptoBulk (D i) ≤ Rows.uptoBulkAll ((List.range n).map D) := by
  have h : ∀ (l : List (DataW H)) d, d ∈ l → Rows.uptoBulk d ≤ Rows.uptoBulkAll l := by
    intro l d hd
    induction l with
    | nil => cases hd
    | cons x r ih =>
      simp only [Rows.uptoBulkAll]
      cases List.mem_cons.1 hd with
      | inl e => subst e; omega
      | inr e => have := ih e; omega
  exact h _ _ (List.mem_map.2 ⟨i, List.mem_range.2 hi, rfl⟩)
theorem nodesL_sum : ∀ l : List ExprV, ExprV.nodesL l = (l.map ExprV.nodes).sum
  | [] => rfl
  | x :: l => by rw [ExprV.nodesL, nodesL_sum l]; simp
set_option maxRecDepth 100000 in
theorem el_expr {H : Type} {enc0 : TypeId × Value → H} {w : World} : ∀ (N fuel : Nat) (cs : List Value) (x : DataW H × List MemPlace), Rows.uptoBulk x.1 ≤ N → DataW.trod enc0 Tryz.prog w 0 (fun _ => true) true fuel 67 cs = some x →
    ∃ e : ExprV, ExAt w N e cs ∧ e.nodes ≤ Rows.uptoBulk x.1
  | 0, fuel, cs, x, hN, h => absurd (bulk_one x.1) (by omega)
  | N + 1, fuel, cs, x, hN, h => by
    obtain ⟨xs, n, _, rfl, hl, hlen, hf⟩ := DataW.trod_struct Tryz.underlying67 h
    match xs, hlen with
    | [y0, y1, y2, y3], _ =>
      have h0 := by simpa using hf 0 _ rfl
      have h1 := by simpa using hf 1 _ rfl
      have h2 := by simpa using hf 2 _ rfl
      have h3 := by simpa using hf 3 _ rfl
      obtain ⟨v0, e0, _, b0⟩ := DataW.trod_int Tryz.underlying3 h0
      obtain ⟨v1, e1, _, b1⟩ := DataW.trod_int Tryz.underlying3 h1
      obtain ⟨v2, e2, _, b2⟩ := DataW.trod_string Tryz.underlying9 h2
      rw [cells_expr] at hl
      try dsimp only at e0 e1 e2 h3
      rw [cells_int] at e0 e1
      rw [cells_txt] at e2
      rw [cells_exprs] at h3
      have hbk : Rows.uptoBulk y3.1 + 4 ≤ Rows.uptoBulk (DataW.agg [y0.1, y1.1, y2.1, y3.1]) := by
        have q0 := bulk_one y0.1
        have q1 := bulk_one y1.1
        have q2 := bulk_one y2.1
        simp only [Rows.uptoBulk, Rows.uptoBulkAll]
        omega
      have hN' : Rows.uptoBulk (DataW.agg [y0.1, y1.1, y2.1, y3.1]) ≤ N + 1 := hN
      match cs, hl with
      | [c0, c1, c2, c3], _ =>
        simp at e0 e1 e2
        have h3' : DataW.trod enc0 Tryz.prog w 0 (fun _ => true) true n 65 [c3] = some y3 := by simpa using h3
        have w0 := bounds_i64 b0
        have w1 := bounds_i64 b1
        rcases Deep.open_slice Tryz.underlying65 h3' with ⟨hc3, hy3⟩ | ⟨a', len', cap', m, n', D, Pl, hc3, _, hl', hm, hmm, hy3, hall⟩
        · obtain rfl : c3 = .slice none 0 0 := by simpa using hc3
          refine ⟨.mk v0 v1 v2 [], ⟨none, 0, by rw [e0, e1, e2]; rfl, by omega, by omega, b2, by simp, fun i x hi => (by simp at hi)⟩, ?_⟩
          show ExprV.nodes _ ≤ Rows.uptoBulk (DataW.agg [y0.1, y1.1, y2.1, y3.1])
          simp only [ExprV.nodes, ExprV.nodesL]
          omega
        · obtain rfl : c3 = .slice (some a') len' cap' := by simpa using hc3
          subst hy3
          have hel : Rows.uptoBulkAll ((List.range len').map D) + 5 ≤ Rows.uptoBulk (DataW.agg [y0.1, y1.1, y2.1, (DataW.slice ((List.range len').map D) ((List.range (m - len')).map fun j => D (len' + j)) : DataW H)]) := by
            have h2 : Rows.uptoBulkAll ((List.range len').map D) + 1 ≤ Rows.uptoBulk (DataW.slice ((List.range len').map D) ((List.range (m - len')).map fun j => D (len' + j)) : DataW H) := by
              simp only [Rows.uptoBulk]; omega
            have := hbk
            dsimp only at this
            omega
          have hm' : len' ≤ m := by rw [hmm]; split <;> omega
          obtain ⟨f, hfx⟩ := Deep.choose_lt (n := len') (p := fun i (z : ExprV) => ∃ q, w.cells? 0 (a'.add (i * 4)) 4 = some q ∧ ExAt w N z q ∧ z.nodes ≤ Rows.uptoBulk (D i)) (fun i hi => by
            obtain ⟨q, g1, g2⟩ := hall i (by omega)
            have hb := bulk_mem D hi
            obtain ⟨z, hz, hzn⟩ := el_expr N _ _ _ (by show Rows.uptoBulk (D i) ≤ N; dsimp only at hN'; omega) g2
            rw [cells_expr] at g1
            exact ⟨z, q, g1, hz, hzn⟩)
          refine ⟨.mk v0 v1 v2 ((List.range len').map f), ⟨some a', cap', by rw [e0, e1, e2]; simp [encX], by omega, by omega, b2, by simp; omega, ?_⟩, ?_⟩
          · intro i x hi
            have hi' : i < len' := by
              have := (List.getElem?_eq_some_iff.1 hi).1
              simpa using this
            have hx : f i = x := by
              rw [List.getElem?_map, List.getElem?_range hi'] at hi
              simpa using hi
            subst hx
            obtain ⟨q, g1, g2, _⟩ := hfx i hi'
            obtain ⟨hq4, hqc⟩ := cells_cell g1
            obtain ⟨b, off, sp⟩ := a'
            have hq0 : q[0]? = some q[0] := List.getElem?_eq_getElem (by omega)
            have hsp : sp = none := by
              obtain ⟨q', g1', _, _⟩ := hfx 0 (by omega)
              obtain ⟨hq4', hqc'⟩ := cells_cell g1'
              have := World.cell?_spot (hqc' 0 _ (List.getElem?_eq_getElem (by omega)))
              simpa [Addr.add] using this
            subst hsp
            refine ⟨b, off, q, rfl, ?_, fun j u hj => ?_, g2⟩
            · have := World.block_lt_of_cell? w _ (hqc 0 _ hq0)
              rw [add_at _ _ _ _ rfl, add_at _ _ _ _ rfl] at this
              exact this
            · have := hqc j u hj
              rw [add_at _ _ _ _ rfl, add_at _ _ _ _ rfl] at this
              exact this
          · show ExprV.nodes _ ≤ Rows.uptoBulk (DataW.agg [y0.1, y1.1, y2.1, (DataW.slice ((List.range len').map D) ((List.range (m - len')).map fun j => D (len' + j)) : DataW H)])
            have hs : ExprV.nodesL ((List.range len').map f) ≤ Rows.uptoBulkAll ((List.range len').map D) := by
              rw [nodesL_sum, List.map_map]
              exact bulk_range _ D len' fun i hi => by obtain ⟨_, _, _, h⟩ := hfx i hi; exact h
            simp only [ExprV.nodes]
            omega
end Go.Proofs.YtgeedjlbajmdkaaGreatDoor
namespace Go.Proofs.YtgeedjlbajmdkaaGreatDoor
open Go.RowKit Go.ChangeShapes Go.WideShapes Go.ChangeAt

mutual
/-- law.weight at 400 -/
def wtE : ExprV → Int
  | .mk _ _ s a => wtL (wrap64 (1 + s.size)) a
def wtL : Int → List ExprV → Int
  | n, [] => n
  | n, x :: l => if n ≤ 400 then wtL (wrap64 (n + wtE x)) l else n
end
/-- a boxed expression -/
abbrev boxX (w : World) (k n : Int) (s : ByteArray) (ao : Option Addr) (len cap : Nat) : World := w.alloc (.cells #[.int .i64 k, .int .i64 n, .string s, .slice ao len cap] 67)
theorem box_cells (w : World) (k n : Int) (s : ByteArray) (ao : Option Addr) (len cap : Nat) :
    (boxX w k n s ao len cap).cell? ⟨w.heap.size, 0, none⟩ = some (.int .i64 k) ∧ (boxX w k n s ao len cap).cell? ⟨w.heap.size, 1, none⟩ = some (.int .i64 n) ∧ (boxX w k n s ao len cap).cell? ⟨w.heap.size, 2, none⟩ = some (.string s) ∧ (boxX w k n s ao len cap).cell? ⟨w.heap.size, 3, none⟩ = some (.slice ao len cap) :=
  have h := Bk.new (w := w) (cs := #[.int .i64 k, .int .i64 n, .string s, .slice ao len cap]) (t := 67) rfl
  ⟨h.get (j := 0) rfl, h.get (j := 1) rfl, h.get (j := 2) rfl, h.get (j := 3) rfl⟩
theorem box_below (w : World) (k n : Int) (s : ByteArray) (ao : Option Addr) (len cap : Nat) : Below w.heap.size w (boxX w k n s ao len cap) := (Below.refl _ _).alloc (Nat.le_refl _) _
theorem drop_cons {α : Type} {l : List α} {i : Nat} {x : α} (h : l[i]? = some x) : l.drop i = x :: l.drop (i + 1) := by
  obtain ⟨h1, h2⟩ := List.getElem?_eq_some_iff.1 h
  rw [← h2]; exact List.drop_eq_getElem_cons h1
set_option maxRecDepth 100000 in
set_option maxHeartbeats 1000000 in
theorem weight_any : ∀ (d : Nat) (k n : Int) (s : ByteArray) (a : List ExprV) (ao : Option Addr) (cap : Nat) (w : World), ExAt w d (.mk k n s a) (encX k n s ao a.length cap) →
    Calls Tryz.prog 80 #[.agg #[.int .i64 k, .int .i64 n, .string s, .slice ao a.length cap], .int .i64 400] w fun e w' => e = .returned (.int .i64 (wtE (.mk k n s a))) ∧ Below w.heap.size w w'
  | 0, _, _, _, _, _, _, _, h => h.elim
  | d + 1, k, n, s, a, ao, cap, w, h => by
    have IH := hide (weight_any d)
    obtain ⟨ao', cap', he, hk, hn, hs, ha, hkids⟩ := h
    obtain ⟨rfl, rfl⟩ : ao = ao' ∧ cap = cap' := by simp [encX] at he; exact ⟨he.1, he.2⟩
    clear he
    have hk2 := hkids.mono (E' := ExAt (boxX w k n s ao a.length cap) d) (fun x q hq => hq.later (box_below w k n s ao a.length cap) (Nat.le_refl _)) (box_below w k n s ao a.length cap) (Nat.le_refl _)
    obtain ⟨c0, c1, c2, c3⟩ := box_cells w k n s ao a.length cap
    have hb1 := box_below w k n s ao a.length cap
    have hws : wtE (.mk k n s a) = wtL (wrap64 (1 + s.size)) a := rfl
    rw [hws]
    generalize hn0 : wrap64 (1 + (s.size : Int)) = n0
    have HN := hide hn0
    clear hn0 hws hkids
    unfold maxLen at hs ha
    go_enter Tryz.func80, Tryz.ntmps80
    go_wp2
    go_loopw [5, 6] (fun nv i wr => ∃ (j : Nat) (c : Int), j ≤ a.length ∧ i = .int .i64 j ∧ nv = .int .i64 c ∧ Hid (wtL n0 a = wtL c (a.drop j)) ∧ Below (boxX w k n s ao a.length cap).heap.size (boxX w k n s ao a.length cap) wr) (fun _ i _ => a.length - (intOf i).toNat)
    case atStart => exact ⟨0, n0, by omega, rfl, by rw [← HN.out], rfl, Below.refl _ _⟩
    case round =>
      obtain ⟨j, c, hj, rfl, rfl, hacc, hbw⟩ := hrel
      have d3 := cell_later hbw c3
      have hbt := hb1.trans (hbw.mono hb1.size)
      by_cases hlt : j < a.length
      · by_cases hc : c ≤ 400
        · obtain ⟨b, off, d', k', n', s', l', ao', cap', rfl, hbs, rfl, hx, hex, g0, g1, g2, g3⟩ := (hk2.mono (E' := ExAt wr d) (fun x q hq => hq.later hbw (Nat.le_refl _)) hbw (Nat.le_refl _)).kid hlt
          have HX := hide (IH.out k' n' s' l' ao' cap' wr hex)
          have hst : Hid (wtL n0 a = wtL (wrap64 (c + wtE (.mk k' n' s' l'))) (a.drop (j + 1))) := by
            show _ = _
            rw [hacc.out, drop_cons hx, wtL, if_pos hc]
          have e1 : decide ((j : Int) < (a.length : Int)) = true := by simp; omega
          have e2 : decide (c ≤ 400) = true := by simpa using hc
          generalize wtE (.mk k' n' s' l') = q at *
          clear hx hex
          go_wp2_with fail
          refine HX.out.mono ?_
          rintro e w2 ⟨rfl, b2⟩
          clear HX
          go_wp2
          go_roundw
          case rel => exact ⟨j + 1, _, by omega, by go_num, rfl, hst, hbw.trans (b2.mono hbw.size)⟩
          case measure => (simp [intOf]; try omega)
        · have hr : wtL n0 a = c := by rw [hacc.out, drop_cons (List.getElem?_eq_getElem hlt), wtL, if_neg hc]
          have HR := hide hr
          clear hr
          have e1 : decide ((j : Int) < (a.length : Int)) = true := by simp; omega
          have e2 : decide (c ≤ 400) = false := by simpa using hc
          go_wp2
          go_ret
          exact ⟨ret_i HR.out, hbt⟩
      · have hr : wtL n0 a = c := by rw [hacc.out, List.drop_eq_nil_of_le (by omega)]; simp [wtL]
        have HR := hide hr
        clear hr
        have e1 : decide ((j : Int) < (a.length : Int)) = false := by simp; omega
        go_wp2
        go_ret
        exact ⟨ret_i HR.out, hbt⟩
theorem LightExpr_any (d : Nat) (k n : Int) (s : ByteArray) (a : List ExprV) (ao : Option Addr) (cap : Nat) (w : World) (h : ExAt w d (.mk k n s a) (encX k n s ao a.length cap)) :
    Calls Tryz.prog 37 #[.agg #[.int .i64 k, .int .i64 n, .string s, .slice ao a.length cap]] w fun e w' => e = .returned (.bool (decide (wtE (.mk k n s a) ≤ 400))) ∧ Below w.heap.size w w' := by
  have HX := hide (weight_any d k n s a ao cap (boxX w k n s ao a.length cap) (h.later (box_below w k n s ao a.length cap) (Nat.le_refl _)))
  have hb1 := box_below w k n s ao a.length cap
  clear h
  generalize wtE (.mk k n s a) = q at *
  go_enter Tryz.func37, Tryz.ntmps37
  go_wp2_with fail
  refine HX.out.mono ?_
  rintro e w1 ⟨rfl, b1⟩
  go_wp2
  go_ret
  exact ⟨rfl, hb1.trans (b1.mono hb1.size)⟩
mutual
/-- expr.size: at floor deep, with so many left -/
def szE : ExprV → Int → Int → Bool × Int
  | .mk _ _ _ a, deep, left => if 5 < deep ∨ left - 1 < 0 then (false, left - 1) else szL a (deep + 1) (left - 1)
def szL : List ExprV → Int → Int → Bool × Int
  | [], _, left => (true, left)
  | x :: l, deep, left => if (szE x deep left).1 = true then szL l deep (szE x deep left).2 else (false, (szE x deep left).2)
end
mutual
theorem szE_le : ∀ (e : ExprV) (deep left : Int), 0 ≤ left → (szE e deep left).2 < left ∧ -1 ≤ (szE e deep left).2 ∧ ((szE e deep left).1 = true → 0 ≤ (szE e deep left).2)
  | .mk k n s a, deep, left, h => by
    unfold szE
    split
    · exact ⟨by show left - 1 < left; omega, by show -1 ≤ left - 1; omega, fun h => (by cases h)⟩
    · have := szL_le a (deep + 1) (left - 1) (by omega)
      exact ⟨by omega, this.2.1, this.2.2⟩
theorem szL_le : ∀ (l : List ExprV) (deep left : Int), 0 ≤ left → (szL l deep left).2 ≤ left ∧ -1 ≤ (szL l deep left).2 ∧ ((szL l deep left).1 = true → 0 ≤ (szL l deep left).2)
  | [], deep, left, h => by unfold szL; exact ⟨Int.le_refl _, by show -1 ≤ left; omega, fun _ => h⟩
  | x :: l, deep, left, h => by
    have h1 := szE_le x deep left h
    unfold szL
    split
    · rename_i hb
      have h2 := szL_le l deep _ (h1.2.2 hb)
      exact ⟨by omega, h2.2.1, h2.2.2⟩
    · exact ⟨by show (szE x deep left).2 ≤ left; omega, h1.2.1, fun h => (by cases h)⟩
end
mutual
theorem szE_iff : ∀ (e : ExprV) (deep left : Int), 0 ≤ left → (((szE e deep left).1 = true ↔ (e.nodes : Int) ≤ left ∧ deep + e.deep ≤ 6) ∧ ((szE e deep left).1 = true → (szE e deep left).2 = left - e.nodes))
  | .mk k n s a, deep, left, h => by
    unfold szE ExprV.nodes ExprV.deep
    split
    · rename_i hc
      refine ⟨⟨fun h => (by cases h), fun ⟨h1, h2⟩ => ?_⟩, fun h => (by cases h)⟩
      push_cast at h1 h2
      omega
    · rename_i hc
      have := szL_iff a (deep + 1) (left - 1) (by omega) (by omega)
      push_cast
      refine ⟨?_, fun hb => ?_⟩
      · rw [this.1]; constructor <;> intro h3 <;> omega
      · rw [this.2 hb]; omega
theorem szL_iff : ∀ (l : List ExprV) (deep left : Int), 0 ≤ left → deep ≤ 6 → (((szL l deep left).1 = true ↔ (ExprV.nodesL l : Int) ≤ left ∧ deep + ExprV.deepL l ≤ 6) ∧ ((szL l deep left).1 = true → (szL l deep left).2 = left - ExprV.nodesL l))
  | [], deep, left, h, hd => by unfold szL ExprV.nodesL ExprV.deepL; simp; omega
  | x :: l, deep, left, h, hd => by
    have h1 := szE_iff x deep left h
    have h0 := szE_le x deep left h
    unfold szL ExprV.nodesL ExprV.deepL
    split
    · rename_i hb
      have h2 := szL_iff l deep _ (h0.2.2 hb) hd
      rw [h1.2 hb] at h2 ⊢
      have h3 := h1.1.1 hb
      push_cast
      refine ⟨?_, fun hb2 => ?_⟩
      · rw [h2.1]; constructor <;> intro h4 <;> omega
      · rw [h2.2 hb2]; omega
    · rename_i hb
      refine ⟨⟨fun h => (by cases h), fun ⟨h3, h4⟩ => ?_⟩, fun h => (by cases h)⟩
      exact absurd (h1.1.2 ⟨by push_cast at h3; omega, by push_cast at h4; omega⟩) hb
end
end Go.Proofs.YtgeedjlbajmdkaaGreatDoor
