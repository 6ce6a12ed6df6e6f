/- A job that comes in as an argument. -/
import Derived.Test.YtjkggijkccbcpaaDoorExpr11
import Derived.Test.YtjkggijkccbcpaaDoorMerge
import Derived.Laws.AppendOwnNone
import Derived.Test.YtjkggijkccbcpaaDoorTexts
import Derived.Test.YtjkggijkccbcpaaDoorJobLaw
set_option linter.unusedSimpArgs false
set_option linter.unusedVariables false
/- Expressions: the closed fact of the law. -/
namespace Go.Proofs.YtjkggijkccbcpaaDoor
open Go.RowKit Go.ChangeShapes Go.WideShapes Go.ChangeAt

theorem ExAt_leaf (w : World) (k n : Int) (s : ByteArray) (hk : -1000 ≤ k ∧ k ≤ 1000) (hn : -1000 ≤ n ∧ n ≤ 1000) (hs : s.size ≤ 1000) : ExAt w 1 (.mk k n s []) (encX k n s none ([] : List ExprV).length 0) :=
  ⟨none, 0, rfl, by omega, by omega, by unfold maxLen; omega, by unfold maxLen; simp, fun i x h => by simp at h⟩
end Go.Proofs.YtjkggijkccbcpaaDoor
/- An expression that comes in as an argument. -/
namespace Go.Proofs.YtjkggijkccbcpaaDoor
open Go.RowKit Go.ChangeShapes Go.WideShapes Go.ChangeAt

theorem ExAt_pos {w : World} {N : Nat} {k n : Int} {s : ByteArray} {a : List ExprV} {cs : List Value} (h : ExAt w N (.mk k n s a) cs) : ∃ ao cap, cs = encX k n s ao a.length cap := by
  cases N with
  | zero => exact h.elim
  | succ N => obtain ⟨ao, cap, e, _⟩ := h; exact ⟨ao, cap, e⟩
theorem open_expr {H : Type} {enc0 : TypeId × Value → H} {w : World} {cs : Array Value} {d : DataW H} {ps : List MemPlace} (h : DataW.Trod enc0 Tryd.prog w 0 (fun _ => true) true 59 (.agg cs) d ps) :
    ∃ k n s a ao cap, Value.agg cs = .agg #[.int .i64 k, .int .i64 n, .string s, .slice ao a.length cap] ∧ ExAt w (Rows.uptoBulk d) (.mk k n s a) (encX k n s ao a.length cap) ∧ (ExprV.mk k n s a).nodes ≤ Rows.uptoBulk d := by
  obtain ⟨fuel, hf⟩ := h
  obtain ⟨e, he, hn⟩ := el_expr (Rows.uptoBulk d) fuel _ _ (Nat.le_refl _) hf
  obtain ⟨k, n, s, a⟩ := e
  obtain ⟨ao, cap, hcs⟩ := ExAt_pos he
  rw [hcs] at he
  have h2 : cs.toList = encX k n s ao a.length cap := by simpa [Value.cells] using hcs
  have h3 : cs = (encX k n s ao a.length cap).toArray := by rw [← h2]
  exact ⟨k, n, s, a, ao, cap, by rw [h3]; rfl, he, hn⟩
end Go.Proofs.YtjkggijkccbcpaaDoor
/- Slices of slices of pairs: from the form's reading. -/
namespace Go.Proofs.YtjkggijkccbcpaaDoor
open Go.RowKit Go.ChangeShapes Go.WideShapes Go.ChangeAt

/-- as open_sl, of cells -/
theorem open_slc {H : Type} {enc0 : TypeId × Value → H} {P : Program} {w : World} {t e : TypeId} {sz : Nat} {α : Type} [Inhabited α] {enc : α → List Value} {ok : α → Prop}
    (ht : P.underlying t = some (.slice e)) (hsz : P.cellsOf e = sz) (h0 : 0 < sz)
    (hel : ∀ fuel cs x, DataW.trod enc0 P w 0 (fun _ => true) true fuel e cs = some x → ∃ a, cs = enc a ∧ ok a)
    {cs : List Value} {x : DataW H × List MemPlace} {fuel : Nat} (hf : DataW.trod enc0 P w 0 (fun _ => true) true fuel t cs = some x) :
    ∃ ao cap, ∃ l : List α, cs = [.slice ao l.length cap] ∧ (ao = none → cap = 0) ∧ Sl sz enc w ao l ∧ l.length ≤ maxLen ∧ ∀ x ∈ l, ok x := by
  rcases Deep.open_slice ht hf with ⟨hcs, _⟩ | ⟨a', len', cap', m, n, D, Pl, hcs, _, hl, hm, hmm, _, hall⟩
  · subst hcs
    exact ⟨none, 0, [], rfl, fun _ => rfl, Sl.nil, by simp, by simp⟩
  · subst hcs
    have hm' : len' ≤ m := by rw [hmm]; split <;> omega
    obtain ⟨f, hfx⟩ := Deep.choose_lt (n := len') (p := fun i (x : α) => w.cells? 0 (a'.add (i * sz)) sz = some (enc x) ∧ ok x) (fun i hi => by
      obtain ⟨cs', h1, h2⟩ := hall i (by omega)
      obtain ⟨x, hx, hok⟩ := hel _ _ _ h2
      rw [hsz] at h1
      exact ⟨x, by rw [← hx]; exact h1, hok⟩)
    refine ⟨some a', cap', (List.range len').map f, by simp, (fun h => by cases h), ?_, by simp; omega, fun x hx => ?_⟩
    · intro hpos
      have hpos' : 0 < len' := by simpa using hpos
      obtain ⟨b, off, sp⟩ := a'
      obtain ⟨c0, c1⟩ := cells_cell (hfx 0 hpos').1
      obtain ⟨v0, hv0⟩ : ∃ v, (enc (f 0))[0]? = some v := by
        rw [List.getElem?_eq_getElem (by omega)]; exact ⟨_, rfl⟩
      have hc0 := c1 0 v0 hv0
      have hsp : sp = none := by
        have := World.cell?_spot hc0
        simpa [Addr.add] using this
      subst hsp
      refine ⟨b, off, rfl, ?_, fun i x j v hi hj => ?_⟩
      · have := World.block_lt_of_cell? w _ hc0
        rw [add_at _ _ _ _ rfl, add_at _ _ _ _ rfl] at this
        exact this
      · have hi' : i < len' := by
          have := (List.getElem?_eq_some_iff.1 hi).1
          simpa using this
        have hx : f i = x := by
          rw [List.getElem?_map, List.getElem?_range hi'] at hi
          simpa using hi
        subst hx
        have := (cells_cell (hfx i hi').1).2 j v hj
        rw [add_at _ _ _ _ rfl, add_at _ _ _ _ rfl] at this
        exact this
    · obtain ⟨i, hi, rfl⟩ := List.mem_map.1 hx
      exact (hfx i (by simpa using hi)).2
/-- a row that can be read -/
structure RowOk (w : World) (r : RowP) : Prop where
  nil : r.1 = none → r.2.1 = 0
  sl : Sl 2 encP w r.1 r.2.2
  len : r.2.2.length ≤ maxLen
theorem RowOk.later {w w' : World} {r : RowP} {B : Nat} (h : RowOk w r) (hb : Below B w w') (hB : w.heap.size ≤ B) : RowOk w' r := ⟨h.nil, h.sl.later hb hB, h.len⟩
theorem cells_rowp : Tryd.prog.cellsOf 43 = 1 := by kernel_rfl
theorem el_rowp {H : Type} {enc0 : TypeId × Value → H} {w : World} (fuel : Nat) (cs : List Value) (x) (h : DataW.trod enc0 Tryd.prog w 0 (fun _ => true) true fuel 43 cs = some x) : ∃ a : RowP, cs = encRow a ∧ (RowOk w a ∧ ∀ p ∈ a.2.2, p.1.size ≤ maxLen ∧ -9223372036854775808 ≤ p.2 ∧ p.2 ≤ 9223372036854775807) := by
  obtain ⟨ao, cap, l, rfl, h1, h2, h3, h4⟩ := open_slc Tryd.underlying43 cells_pair (by decide) el_pair h
  exact ⟨(ao, cap, l), rfl, ⟨h1, h2, h3⟩, h4⟩

theorem rowsL_take {rs : List RowP} {k : Nat} {a : Option Addr} {c : Nat} {l : List Pr} (h : rs[k]? = some (a, c, l)) : (rowsL (rs.take (k + 1))).flatten = (rowsL (rs.take k)).flatten ++ l := by
  obtain ⟨hlt, hx⟩ := List.getElem?_eq_some_iff.1 h
  rw [List.take_succ_eq_append_getElem hlt, hx]
  unfold rowsL
  rw [List.map_append, List.flatten_append]
  simp
theorem rowsL_le (rs : List RowP) (k : Nat) : (rowsL (rs.take k)).flatten.length ≤ (rowsL rs).flatten.length := by
  conv => rhs; rw [← List.take_append_drop k rs]
  unfold rowsL
  rw [List.map_append, List.flatten_append, List.length_append]
  omega
end Go.Proofs.YtjkggijkccbcpaaDoor
/- Jobs: how a job and its rules lie; what comes in. -/
namespace Go.Proofs.YtjkggijkccbcpaaDoor
open Go.RowKit Go.ChangeShapes Go.WideShapes Go.ChangeAt

/-- an expression as it lies -/
structure ExR where
  k : Int
  n : Int
  s : ByteArray
  ao : Option Addr
  cap : Nat
  a : List ExprV
def ExR.tree (e : ExR) : ExprV := .mk e.k e.n e.s e.a
def ExR.cells (e : ExR) : List Value := encX e.k e.n e.s e.ao e.a.length e.cap
def ExR.agg (e : ExR) : Value := .agg #[.int .i64 e.k, .int .i64 e.n, .string e.s, .slice e.ao e.a.length e.cap]
/-- a rule as it lies -/
structure RuleR where
  each : Bool
  when_ : Int
  cond : ExR
  txt : ByteArray
  key : ExR
  val : ExR
instance : Inhabited ExR := ⟨⟨0, 0, ⟨#[]⟩, none, 0, []⟩⟩
instance : Inhabited RuleR := ⟨⟨false, 0, default, ⟨#[]⟩, default, default⟩⟩
def RuleR.v (r : RuleR) : RuleV := ⟨r.each, r.when_, r.cond.tree, r.txt, r.key.tree, r.val.tree⟩
def encRule (r : RuleR) : List Value := [.bool r.each, .int .i64 r.when_, .int .i64 r.cond.k, .int .i64 r.cond.n, .string r.cond.s, .slice r.cond.ao r.cond.a.length r.cond.cap, .string r.txt,
  .int .i64 r.key.k, .int .i64 r.key.n, .string r.key.s, .slice r.key.ao r.key.a.length r.key.cap, .int .i64 r.val.k, .int .i64 r.val.n, .string r.val.s, .slice r.val.ao r.val.a.length r.val.cap]
theorem encRule_len (r : RuleR) : (encRule r).length = 15 := rfl
def RuleR.agg (r : RuleR) : Value := .agg #[.bool r.each, .int .i64 r.when_, .int .i64 r.cond.k, .int .i64 r.cond.n, .string r.cond.s, .slice r.cond.ao r.cond.a.length r.cond.cap, .string r.txt,
  .int .i64 r.key.k, .int .i64 r.key.n, .string r.key.s, .slice r.key.ao r.key.a.length r.key.cap, .int .i64 r.val.k, .int .i64 r.val.n, .string r.val.s, .slice r.val.ao r.val.a.length r.val.cap]
/-- a rule that can be read -/
structure RuleAt (w : World) (d : Nat) (r : RuleR) : Prop where
  cond : ExAt w d r.cond.tree r.cond.cells
  key : ExAt w d r.key.tree r.key.cells
  val : ExAt w d r.val.tree r.val.cells
  txt : r.txt.size ≤ maxLen
theorem RuleAt.later {w w' : World} {d : Nat} {r : RuleR} {B : Nat} (h : RuleAt w d r) (hb : Below B w w') (hB : w.heap.size ≤ B) : RuleAt w' d r :=
  ⟨h.cond.later hb hB, h.key.later hb hB, h.val.later hb hB, h.txt⟩
theorem ExAt.more {w : World} : ∀ {d d' : Nat} {e : ExprV} {cs : List Value}, ExAt w d e cs → d ≤ d' → ExAt w d' e cs
  | 0, _, _, _, h, _ => h.elim
  | _ + 1, 0, _, _, _, hd => absurd hd (by omega)
  | d + 1, d' + 1, .mk k n s a, cs, h, hd => by
    obtain ⟨ao, cap, e, h1, h2, h3, h4, h5⟩ := h
    refine ⟨ao, cap, e, h1, h2, h3, h4, fun i x hi => ?_⟩
    obtain ⟨b, off, q, e1, hlt, hc, hq⟩ := h5 i x hi
    exact ⟨b, off, q, e1, hlt, hc, ExAt.more hq (by omega)⟩
theorem RuleAt.more {w : World} {d d' : Nat} {r : RuleR} (h : RuleAt w d r) (hd : d ≤ d') : RuleAt w d' r := ⟨h.cond.more hd, h.key.more hd, h.val.more hd, h.txt⟩
theorem exR_of {w : World} {d : Nat} {e : ExprV} {cs : List Value} (h : ExAt w d e cs) : ∃ r : ExR, cs = r.cells ∧ e = r.tree := by
  obtain ⟨k, n, s, a⟩ := e
  obtain ⟨ao, cap, rfl⟩ := ExAt_pos h
  exact ⟨⟨k, n, s, ao, cap, a⟩, rfl, rfl⟩
theorem cells_rule : Tryd.prog.cellsOf 61 = 15 := by kernel_rfl
theorem cells_bool1 : Tryd.prog.cellsOf 4 = 1 := by kernel_rfl
set_option maxRecDepth 100000 in
theorem el_rule {H : Type} {enc0 : TypeId × Value → H} {w : World} (fuel : Nat) (cs : List Value) (x) (h : DataW.trod enc0 Tryd.prog w 0 (fun _ => true) true fuel 61 cs = some x) : ∃ r : RuleR, cs = encRule r ∧ ∃ d, RuleAt w d r := by
  obtain ⟨xs, n, _, rfl, hl, hlen, hf⟩ := DataW.trod_struct Tryd.underlying61 h
  match xs, hlen with
  | [y0, y1, y2, y3, y4, y5], _ =>
    have h0 := by simpa using hf 0 _ rfl
    have h1 := by simpa using hf 1 _ rfl
    have h2 := by simpa using hf 2 _ rfl
    have h3 := by simpa using hf 3 _ rfl
    have h4 := by simpa using hf 4 _ rfl
    have h5 := by simpa using hf 5 _ rfl
    rw [cells_rule] at hl
    obtain ⟨each, e0, _⟩ := DataW.trod_bool Tryd.underlying4 h0
    obtain ⟨wh, e1, _⟩ := DataW.trod_int Tryd.underlying3 h1
    obtain ⟨txt, e3, _, htx⟩ := DataW.trod_string Tryd.underlying9 h3
    try dsimp only at e0 e1 e3 h2 h4 h5
    rw [cells_bool1] at e0
    rw [cells_int] at e1
    rw [cells_txt] at e3
    rw [cells_expr] at h2 h4 h5
    obtain ⟨c, hc, _⟩ := el_expr (Rows.uptoBulk y2.1) n _ _ (Nat.le_refl _) h2
    obtain ⟨kx, hkx, _⟩ := el_expr (Rows.uptoBulk y4.1) n _ _ (Nat.le_refl _) h4
    obtain ⟨vx, hvx, _⟩ := el_expr (Rows.uptoBulk y5.1) n _ _ (Nat.le_refl _) h5
    obtain ⟨rc, qc, rfl⟩ := exR_of hc
    obtain ⟨rk, qk, rfl⟩ := exR_of hkx
    obtain ⟨rv, qv, rfl⟩ := exR_of hvx
    rw [qc] at hc
    rw [qk] at hkx
    rw [qv] at hvx
    match cs, hl with
    | [c0, c1, c2, c3, c4, c5, c6, c7, c8, c9, c10, c11, c12, c13, c14], _ =>
      simp [ExR.cells, encX] at e0 e1 e3 qc qk qv
      refine ⟨⟨each, wh, rc, txt, rk, rv⟩, ?_, max (Rows.uptoBulk y2.1) (max (Rows.uptoBulk y4.1) (Rows.uptoBulk y5.1)), hc.more (by omega), hkx.more (by omega), hvx.more (by omega), htx⟩
      simp [encRule, e0, e1, e3, qc, qk, qv]
end Go.Proofs.YtjkggijkccbcpaaDoor
namespace Go.Proofs.YtjkggijkccbcpaaDoor
open Go.RowKit Go.ChangeShapes Go.WideShapes Go.ChangeAt

theorem slc_capJ {H : Type} {enc0 : TypeId × Value → H} {P : Program} {w : World} {t e : TypeId} {ao : Option Addr} {n cap : Nat}
    (ht : P.underlying t = some (.slice e)) {x : DataW H × List MemPlace} {fuel : Nat} (hf : DataW.trod enc0 P w 0 (fun _ => true) true fuel t [.slice ao n cap] = some x) : n ≤ cap ∧ cap ≤ maxLen := by
  rcases Deep.open_slice ht hf with ⟨hcs, _⟩ | ⟨a', len', cap', m, k, D, Pl, hcs, _, hl, hm, _⟩
  · simp at hcs
    obtain ⟨_, rfl, rfl⟩ := hcs
    exact ⟨by omega, by simp⟩
  · simp at hcs
    obtain ⟨_, rfl, rfl⟩ := hcs
    exact ⟨hl, hm⟩
theorem rules_deep {w : World} : ∀ {rs : List RuleR}, (∀ r ∈ rs, ∃ d, RuleAt w d r) → ∃ d, ∀ r ∈ rs, RuleAt w d r
  | [], _ => ⟨0, fun r hr => by cases hr⟩
  | a :: rs, h => by
    obtain ⟨d1, h1⟩ := h a List.mem_cons_self
    obtain ⟨d2, h2⟩ := rules_deep (rs := rs) fun r hr => h r (List.mem_cons_of_mem _ hr)
    refine ⟨max d1 d2, fun r hr => ?_⟩
    rcases List.mem_cons.1 hr with rfl | hr
    · exact h1.more (Nat.le_max_left _ _)
    · exact (h2 r hr).more (Nat.le_max_right _ _)
/-- a job that comes in -/
structure JobIn (w : World) (ro : Option Addr) (rc : Nat) (rs : List RuleR) (fold slices : Int) : Prop where
  nil : ro = none → rc = 0
  sl : Sl 15 encRule w ro rs
  len : rs.length ≤ maxLen
  at_ : ∀ r ∈ rs, ∃ d, RuleAt w d r
  cap : rs.length ≤ rc ∧ rc ≤ maxLen
  fold : -9223372036854775808 ≤ fold ∧ fold ≤ 9223372036854775807
  slices : -9223372036854775808 ≤ slices ∧ slices ≤ 9223372036854775807
theorem cells_job : Tryd.prog.cellsOf 24 = 4 := by kernel_rfl
theorem cells_rules : Tryd.prog.cellsOf 22 = 1 := by kernel_rfl
set_option maxRecDepth 100000 in
theorem open_job {H : Type} {enc0 : TypeId × Value → H} {w : World} {cs : Array Value} {d : DataW H} {ps : List MemPlace} (h : DataW.Trod enc0 Tryd.prog w 0 (fun _ => true) true 24 (.agg cs) d ps) :
    ∃ ro rc rs fold early slices, Value.agg cs = .agg #[.slice ro (List.length (α := RuleR) rs) rc, .int .i64 fold, .bool early, .int .i64 slices] ∧ JobIn w ro rc rs fold slices := by
  obtain ⟨fuel, hf⟩ := h
  obtain ⟨xs, n, _, _, hl, hlen, hf⟩ := DataW.trod_struct Tryd.underlying24 hf
  match xs, hlen with
  | [y0, y1, y2, y3], _ =>
    have h0 := by simpa using hf 0 _ rfl
    have h1 := by simpa using hf 1 _ rfl
    have h2 := by simpa using hf 2 _ rfl
    have h3 := by simpa using hf 3 _ rfl
    rw [cells_job] at hl
    obtain ⟨fold, e1, _, w1⟩ := DataW.trod_int Tryd.underlying3 h1
    obtain ⟨early, e2, _⟩ := DataW.trod_bool Tryd.underlying4 h2
    obtain ⟨slices, e3, _, w3⟩ := DataW.trod_int Tryd.underlying3 h3
    try dsimp only at e1 e2 e3 h0
    rw [cells_rules] at h0
    rw [cells_int] at e1 e3
    rw [cells_bool1] at e2
    obtain ⟨ro, rc, rs, e0, k1, k2, k3, k4⟩ := open_slc Tryd.underlying22 cells_rule (by decide) el_rule h0
    have hc := slc_capJ Tryd.underlying22 (e0 ▸ h0)
    have b1 := bounds_i64 w1
    have b3 := bounds_i64 w3
    match cs, hl with
    | ⟨[c0, c1, c2, c3]⟩, _ =>
      simp [Value.cells] at e0 e1 e2 e3
      exact ⟨ro, rc, rs, fold, early, slices, by rw [e0, e1, e2, e3], k1, k2, k3, k4, hc, by omega, by omega⟩
theorem open_rule {H : Type} {enc0 : TypeId × Value → H} {w : World} {cs : Array Value} {d : DataW H} {ps : List MemPlace} (h : DataW.Trod enc0 Tryd.prog w 0 (fun _ => true) true 61 (.agg cs) d ps) :
    ∃ r : RuleR, Value.agg cs = r.agg ∧ ∃ d, RuleAt w d r := by
  obtain ⟨fuel, hf⟩ := h
  obtain ⟨r, hcs, hd⟩ := el_rule fuel _ _ hf
  have h2 : cs.toList = encRule r := by simpa [Value.cells] using hcs
  have h3 : cs = (encRule r).toArray := by rw [← h2]
  exact ⟨r, by rw [h3]; rfl, hd⟩
theorem el_txtJ {H : Type} {enc0 : TypeId × Value → H} {w : World} (fuel : Nat) (cs : List Value) (x) (h : DataW.trod enc0 Tryd.prog w 0 (fun _ => true) true fuel 9 cs = some x) : ∃ a : ByteArray, cs = encS a ∧ a.size ≤ maxLen := by
  obtain ⟨a, rfl, _, hs⟩ := DataW.trod_string Tryd.underlying9 h
  exact ⟨a, rfl, hs⟩
theorem open_texts {H : Type} {enc0 : TypeId × Value → H} {w : World} {v : Value} {d : DataW H} {ps : List MemPlace} (hv : ∃ a len cap, v = .slice a len cap) (h : DataW.Trod enc0 Tryd.prog w 0 (fun _ => true) true 25 v d ps) :
    ∃ ao cap l, v = .slice ao (List.length (α := ByteArray) l) cap ∧ (ao = none → cap = 0) ∧ Sl 1 encS w ao l ∧ l.length ≤ maxLen ∧ ∀ x ∈ l, x.size ≤ maxLen := by
  obtain ⟨a, len, cap, rfl⟩ := hv
  obtain ⟨fuel, hf⟩ := h
  obtain ⟨ao, c, l, e, k1, k2, k3, k4⟩ := open_slc Tryd.underlying25 cells_txt (by decide) el_txtJ hf
  simp [Value.cells] at e
  obtain ⟨rfl, rfl, rfl⟩ := e
  exact ⟨_, _, l, rfl, k1, k2, k3, k4⟩
end Go.Proofs.YtjkggijkccbcpaaDoor
