/- Jobs: what job.Check says of a rule. -/
import Derived.Test.YtgeedjlbajmdkaaGreatDoorExpr11
import Derived.Test.YtgeedjlbajmdkaaGreatDoorMerge
import Derived.Laws.AppendOwnNone
import Derived.Test.YtgeedjlbajmdkaaGreatDoorTexts
import Derived.Test.YtgeedjlbajmdkaaGreatDoorJText
import Derived.Test.YtgeedjlbajmdkaaGreatDoorJQuoted
import Derived.Test.YtgeedjlbajmdkaaGreatDoorWords
set_option linter.unusedSimpArgs false
set_option linter.unusedVariables false
/- Expressions: the closed fact of the law. -/
namespace Go.Proofs.YtgeedjlbajmdkaaGreatDoor
open Go.RowKit Go.ChangeShapes Go.WideShapes Go.ChangeAt

theorem ExAt_leaf (w : World) (k n : Int) (s : ByteArray) (hk : -1000 ≤ k ∧ k ≤ 1000) (hn : -1000 ≤ n ∧ n ≤ 1000) (hs : s.size ≤ 1000) : ExAt w 1 (.mk k n s []) (encX k n s none ([] : List ExprV).length 0) :=
  ⟨none, 0, rfl, by omega, by omega, by unfold maxLen; omega, by unfold maxLen; simp, fun i x h => by simp at h⟩
end Go.Proofs.YtgeedjlbajmdkaaGreatDoor
/- An expression that comes in as an argument. -/
namespace Go.Proofs.YtgeedjlbajmdkaaGreatDoor
open Go.RowKit Go.ChangeShapes Go.WideShapes Go.ChangeAt

theorem ExAt_pos {w : World} {N : Nat} {k n : Int} {s : ByteArray} {a : List ExprV} {cs : List Value} (h : ExAt w N (.mk k n s a) cs) : ∃ ao cap, cs = encX k n s ao a.length cap := by
  cases N with
  | zero => exact h.elim
  | succ N => obtain ⟨ao, cap, e, _⟩ := h; exact ⟨ao, cap, e⟩
theorem open_expr {H : Type} {enc0 : TypeId × Value → H} {w : World} {cs : Array Value} {d : DataW H} {ps : List MemPlace} (h : DataW.Trod enc0 Tryz.prog w 0 (fun _ => true) true 67 (.agg cs) d ps) :
    ∃ k n s a ao cap, Value.agg cs = .agg #[.int .i64 k, .int .i64 n, .string s, .slice ao a.length cap] ∧ ExAt w (Rows.uptoBulk d) (.mk k n s a) (encX k n s ao a.length cap) ∧ (ExprV.mk k n s a).nodes ≤ Rows.uptoBulk d := by
  obtain ⟨fuel, hf⟩ := h
  obtain ⟨e, he, hn⟩ := el_expr (Rows.uptoBulk d) fuel _ _ (Nat.le_refl _) hf
  obtain ⟨k, n, s, a⟩ := e
  obtain ⟨ao, cap, hcs⟩ := ExAt_pos he
  rw [hcs] at he
  have h2 : cs.toList = encX k n s ao a.length cap := by simpa [Value.cells] using hcs
  have h3 : cs = (encX k n s ao a.length cap).toArray := by rw [← h2]
  exact ⟨k, n, s, a, ao, cap, by rw [h3]; rfl, he, hn⟩
end Go.Proofs.YtgeedjlbajmdkaaGreatDoor
/- Slices of slices of pairs: from the form's reading. -/
namespace Go.Proofs.YtgeedjlbajmdkaaGreatDoor
open Go.RowKit Go.ChangeShapes Go.WideShapes Go.ChangeAt

/-- as open_sl, of cells -/
theorem open_slc {H : Type} {enc0 : TypeId × Value → H} {P : Program} {w : World} {t e : TypeId} {sz : Nat} {α : Type} [Inhabited α] {enc : α → List Value} {ok : α → Prop}
    (ht : P.underlying t = some (.slice e)) (hsz : P.cellsOf e = sz) (h0 : 0 < sz)
    (hel : ∀ fuel cs x, DataW.trod enc0 P w 0 (fun _ => true) true fuel e cs = some x → ∃ a, cs = enc a ∧ ok a)
    {cs : List Value} {x : DataW H × List MemPlace} {fuel : Nat} (hf : DataW.trod enc0 P w 0 (fun _ => true) true fuel t cs = some x) :
    ∃ ao cap, ∃ l : List α, cs = [.slice ao l.length cap] ∧ (ao = none → cap = 0) ∧ Sl sz enc w ao l ∧ l.length ≤ maxLen ∧ ∀ x ∈ l, ok x := by
  rcases Deep.open_slice ht hf with ⟨hcs, _⟩ | ⟨a', len', cap', m, n, D, Pl, hcs, _, hl, hm, hmm, _, hall⟩
  · subst hcs
    exact ⟨none, 0, [], rfl, fun _ => rfl, Sl.nil, by simp, by simp⟩
  · subst hcs
    have hm' : len' ≤ m := by rw [hmm]; split <;> omega
    obtain ⟨f, hfx⟩ := Deep.choose_lt (n := len') (p := fun i (x : α) => w.cells? 0 (a'.add (i * sz)) sz = some (enc x) ∧ ok x) (fun i hi => by
      obtain ⟨cs', h1, h2⟩ := hall i (by omega)
      obtain ⟨x, hx, hok⟩ := hel _ _ _ h2
      rw [hsz] at h1
      exact ⟨x, by rw [← hx]; exact h1, hok⟩)
    refine ⟨some a', cap', (List.range len').map f, by simp, (fun h => by cases h), ?_, by simp; omega, fun x hx => ?_⟩
    · intro hpos
      have hpos' : 0 < len' := by simpa using hpos
      obtain ⟨b, off, sp⟩ := a'
      obtain ⟨c0, c1⟩ := cells_cell (hfx 0 hpos').1
      obtain ⟨v0, hv0⟩ : ∃ v, (enc (f 0))[0]? = some v := by
        rw [List.getElem?_eq_getElem (by omega)]; exact ⟨_, rfl⟩
      have hc0 := c1 0 v0 hv0
      have hsp : sp = none := by
        have := World.cell?_spot hc0
        simpa [Addr.add] using this
      subst hsp
      refine ⟨b, off, rfl, ?_, fun i x j v hi hj => ?_⟩
      · have := World.block_lt_of_cell? w _ hc0
        rw [add_at _ _ _ _ rfl, add_at _ _ _ _ rfl] at this
        exact this
      · have hi' : i < len' := by
          have := (List.getElem?_eq_some_iff.1 hi).1
          simpa using this
        have hx : f i = x := by
          rw [List.getElem?_map, List.getElem?_range hi'] at hi
          simpa using hi
        subst hx
        have := (cells_cell (hfx i hi').1).2 j v hj
        rw [add_at _ _ _ _ rfl, add_at _ _ _ _ rfl] at this
        exact this
    · obtain ⟨i, hi, rfl⟩ := List.mem_map.1 hx
      exact (hfx i (by simpa using hi)).2
/-- a row that can be read -/
structure RowOk (w : World) (r : RowP) : Prop where
  nil : r.1 = none → r.2.1 = 0
  sl : Sl 2 encP w r.1 r.2.2
  len : r.2.2.length ≤ maxLen
theorem RowOk.later {w w' : World} {r : RowP} {B : Nat} (h : RowOk w r) (hb : Below B w w') (hB : w.heap.size ≤ B) : RowOk w' r := ⟨h.nil, h.sl.later hb hB, h.len⟩
theorem cells_rowp : Tryz.prog.cellsOf 53 = 1 := by kernel_rfl
theorem el_rowp {H : Type} {enc0 : TypeId × Value → H} {w : World} (fuel : Nat) (cs : List Value) (x) (h : DataW.trod enc0 Tryz.prog w 0 (fun _ => true) true fuel 53 cs = some x) : ∃ a : RowP, cs = encRow a ∧ (RowOk w a ∧ ∀ p ∈ a.2.2, p.1.size ≤ maxLen ∧ -9223372036854775808 ≤ p.2 ∧ p.2 ≤ 9223372036854775807) := by
  obtain ⟨ao, cap, l, rfl, h1, h2, h3, h4⟩ := open_slc Tryz.underlying53 cells_pair (by decide) el_pair h
  exact ⟨(ao, cap, l), rfl, ⟨h1, h2, h3⟩, h4⟩

theorem rowsL_take {rs : List RowP} {k : Nat} {a : Option Addr} {c : Nat} {l : List Pr} (h : rs[k]? = some (a, c, l)) : (rowsL (rs.take (k + 1))).flatten = (rowsL (rs.take k)).flatten ++ l := by
  obtain ⟨hlt, hx⟩ := List.getElem?_eq_some_iff.1 h
  rw [List.take_succ_eq_append_getElem hlt, hx]
  unfold rowsL
  rw [List.map_append, List.flatten_append]
  simp
theorem rowsL_le (rs : List RowP) (k : Nat) : (rowsL (rs.take k)).flatten.length ≤ (rowsL rs).flatten.length := by
  conv => rhs; rw [← List.take_append_drop k rs]
  unfold rowsL
  rw [List.map_append, List.flatten_append, List.length_append]
  omega
end Go.Proofs.YtgeedjlbajmdkaaGreatDoor
/- Jobs: how a job and its rules lie; what comes in. -/
namespace Go.Proofs.YtgeedjlbajmdkaaGreatDoor
open Go.RowKit Go.ChangeShapes Go.WideShapes Go.ChangeAt

/-- an expression as it lies -/
structure ExR where
  k : Int
  n : Int
  s : ByteArray
  ao : Option Addr
  cap : Nat
  a : List ExprV
def ExR.tree (e : ExR) : ExprV := .mk e.k e.n e.s e.a
def ExR.cells (e : ExR) : List Value := encX e.k e.n e.s e.ao e.a.length e.cap
def ExR.agg (e : ExR) : Value := .agg #[.int .i64 e.k, .int .i64 e.n, .string e.s, .slice e.ao e.a.length e.cap]
/-- a rule as it lies -/
structure RuleR where
  each : Bool
  when_ : Int
  cond : ExR
  txt : ByteArray
  key : ExR
  val : ExR
instance : Inhabited ExR := ⟨⟨0, 0, ⟨#[]⟩, none, 0, []⟩⟩
instance : Inhabited RuleR := ⟨⟨false, 0, default, ⟨#[]⟩, default, default⟩⟩
def RuleR.v (r : RuleR) : RuleV := ⟨r.each, r.when_, r.cond.tree, r.txt, r.key.tree, r.val.tree⟩
def encRule (r : RuleR) : List Value := [.bool r.each, .int .i64 r.when_, .int .i64 r.cond.k, .int .i64 r.cond.n, .string r.cond.s, .slice r.cond.ao r.cond.a.length r.cond.cap, .string r.txt,
  .int .i64 r.key.k, .int .i64 r.key.n, .string r.key.s, .slice r.key.ao r.key.a.length r.key.cap, .int .i64 r.val.k, .int .i64 r.val.n, .string r.val.s, .slice r.val.ao r.val.a.length r.val.cap]
theorem encRule_len (r : RuleR) : (encRule r).length = 15 := rfl
def RuleR.agg (r : RuleR) : Value := .agg #[.bool r.each, .int .i64 r.when_, .int .i64 r.cond.k, .int .i64 r.cond.n, .string r.cond.s, .slice r.cond.ao r.cond.a.length r.cond.cap, .string r.txt,
  .int .i64 r.key.k, .int .i64 r.key.n, .string r.key.s, .slice r.key.ao r.key.a.length r.key.cap, .int .i64 r.val.k, .int .i64 r.val.n, .string r.val.s, .slice r.val.ao r.val.a.length r.val.cap]
/-- a rule that can be read -/
structure RuleAt (w : World) (d : Nat) (r : RuleR) : Prop where
  cond : ExAt w d r.cond.tree r.cond.cells
  key : ExAt w d r.key.tree r.key.cells
  val : ExAt w d r.val.tree r.val.cells
  txt : r.txt.size ≤ maxLen
theorem RuleAt.later {w w' : World} {d : Nat} {r : RuleR} {B : Nat} (h : RuleAt w d r) (hb : Below B w w') (hB : w.heap.size ≤ B) : RuleAt w' d r :=
  ⟨h.cond.later hb hB, h.key.later hb hB, h.val.later hb hB, h.txt⟩
theorem ExAt.more {w : World} : ∀ {d d' : Nat} {e : ExprV} {cs : List Value}, ExAt w d e cs → d ≤ d' → ExAt w d' e cs
  | 0, _, _, _, h, _ => h.elim
  | _ + 1, 0, _, _, _, hd => absurd hd (by omega)
  | d + 1, d' + 1, .mk k n s a, cs, h, hd => by
    obtain ⟨ao, cap, e, h1, h2, h3, h4, h5⟩ := h
    refine ⟨ao, cap, e, h1, h2, h3, h4, fun i x hi => ?_⟩
    obtain ⟨b, off, q, e1, hlt, hc, hq⟩ := h5 i x hi
    exact ⟨b, off, q, e1, hlt, hc, ExAt.more hq (by omega)⟩
theorem RuleAt.more {w : World} {d d' : Nat} {r : RuleR} (h : RuleAt w d r) (hd : d ≤ d') : RuleAt w d' r := ⟨h.cond.more hd, h.key.more hd, h.val.more hd, h.txt⟩
theorem exR_of {w : World} {d : Nat} {e : ExprV} {cs : List Value} (h : ExAt w d e cs) : ∃ r : ExR, cs = r.cells ∧ e = r.tree := by
  obtain ⟨k, n, s, a⟩ := e
  obtain ⟨ao, cap, rfl⟩ := ExAt_pos h
  exact ⟨⟨k, n, s, ao, cap, a⟩, rfl, rfl⟩
theorem cells_rule : Tryz.prog.cellsOf 69 = 15 := by kernel_rfl
theorem cells_bool1 : Tryz.prog.cellsOf 4 = 1 := by kernel_rfl
set_option maxRecDepth 100000 in
theorem el_rule {H : Type} {enc0 : TypeId × Value → H} {w : World} (fuel : Nat) (cs : List Value) (x) (h : DataW.trod enc0 Tryz.prog w 0 (fun _ => true) true fuel 69 cs = some x) : ∃ r : RuleR, cs = encRule r ∧ ∃ d, RuleAt w d r := by
  obtain ⟨xs, n, _, rfl, hl, hlen, hf⟩ := DataW.trod_struct Tryz.underlying69 h
  match xs, hlen with
  | [y0, y1, y2, y3, y4, y5], _ =>
    have h0 := by simpa using hf 0 _ rfl
    have h1 := by simpa using hf 1 _ rfl
    have h2 := by simpa using hf 2 _ rfl
    have h3 := by simpa using hf 3 _ rfl
    have h4 := by simpa using hf 4 _ rfl
    have h5 := by simpa using hf 5 _ rfl
    rw [cells_rule] at hl
    obtain ⟨each, e0, _⟩ := DataW.trod_bool Tryz.underlying4 h0
    obtain ⟨wh, e1, _⟩ := DataW.trod_int Tryz.underlying3 h1
    obtain ⟨txt, e3, _, htx⟩ := DataW.trod_string Tryz.underlying9 h3
    try dsimp only at e0 e1 e3 h2 h4 h5
    rw [cells_bool1] at e0
    rw [cells_int] at e1
    rw [cells_txt] at e3
    rw [cells_expr] at h2 h4 h5
    obtain ⟨c, hc, _⟩ := el_expr (Rows.uptoBulk y2.1) n _ _ (Nat.le_refl _) h2
    obtain ⟨kx, hkx, _⟩ := el_expr (Rows.uptoBulk y4.1) n _ _ (Nat.le_refl _) h4
    obtain ⟨vx, hvx, _⟩ := el_expr (Rows.uptoBulk y5.1) n _ _ (Nat.le_refl _) h5
    obtain ⟨rc, qc, rfl⟩ := exR_of hc
    obtain ⟨rk, qk, rfl⟩ := exR_of hkx
    obtain ⟨rv, qv, rfl⟩ := exR_of hvx
    rw [qc] at hc
    rw [qk] at hkx
    rw [qv] at hvx
    match cs, hl with
    | [c0, c1, c2, c3, c4, c5, c6, c7, c8, c9, c10, c11, c12, c13, c14], _ =>
      simp [ExR.cells, encX] at e0 e1 e3 qc qk qv
      refine ⟨⟨each, wh, rc, txt, rk, rv⟩, ?_, max (Rows.uptoBulk y2.1) (max (Rows.uptoBulk y4.1) (Rows.uptoBulk y5.1)), hc.more (by omega), hkx.more (by omega), hvx.more (by omega), htx⟩
      simp [encRule, e0, e1, e3, qc, qk, qv]
end Go.Proofs.YtgeedjlbajmdkaaGreatDoor
/- Expressions that a reader makes: where they lie; the search of a kind's name in the map of names. -/
namespace Go.Proofs.YtgeedjlbajmdkaaGreatDoor
open Go.RowKit

/-- a tree that lies in these places, its lists in blocks of S -/
def ExS (S : Nat → Prop) (w : World) : Nat → ExprV → List Value → Prop
  | 0, _, _ => False
  | d + 1, .mk k n s a, cs => ∃ ao cap, cs = encX k n s ao a.length cap ∧ (-9223372036854775808 ≤ k ∧ k ≤ 9223372036854775807) ∧ (-9223372036854775808 ≤ n ∧ n ≤ 9223372036854775807) ∧ s.size ≤ maxLen ∧ a.length ≤ maxLen ∧ KidsAt (ExS S w d) w ao a ∧ ∀ b o, ao = some ⟨b, o, none⟩ → S b ∧ b < w.heap.size
theorem ExS.at {S : Nat → Prop} {w : World} : ∀ {d : Nat} {e : ExprV} {cs : List Value}, ExS S w d e cs → ExAt w d e cs
  | 0, _, _, h => h
  | d + 1, .mk k n s a, cs, h => by
    obtain ⟨ao, cap, e, h1, h2, h3, h4, h5, _⟩ := h
    refine ⟨ao, cap, e, h1, h2, h3, h4, fun i x hi => ?_⟩
    obtain ⟨b, off, q, e1, hlt, hc, hq⟩ := h5 i x hi
    exact ⟨b, off, q, e1, hlt, hc, hq.at⟩
theorem ExS.kept {S T : Nat → Prop} {w w' : World} (k : KeptBut T w w') (hs : ∀ q, S q → ¬ T q) : ∀ {d : Nat} {e : ExprV} {cs : List Value}, ExS S w d e cs → ExS S w' d e cs
  | 0, _, _, h => h
  | d + 1, .mk k0 n s a, cs, h => by
    obtain ⟨ao, cap, e, h1, h2, h3, h4, h5, h6⟩ := h
    refine ⟨ao, cap, e, h1, h2, h3, h4, fun i x hi => ?_, fun b o e1 => ⟨(h6 b o e1).1, Nat.lt_of_lt_of_le (h6 b o e1).2 k.size⟩⟩
    obtain ⟨b, off, q, e1, hlt, hc, hq⟩ := h5 i x hi
    have hb := h6 b off e1
    exact ⟨b, off, q, e1, by have := k.size; omega, fun j u hj => k.cell (hc j u hj) (hs b hb.1), hq.kept k hs⟩
theorem ExS.mono {S T : Nat → Prop} {w : World} (hs : ∀ q, S q → T q) : ∀ {d : Nat} {e : ExprV} {cs : List Value}, ExS S w d e cs → ExS T w d e cs
  | 0, _, _, h => h
  | d + 1, .mk k0 n s a, cs, h => by
    obtain ⟨ao, cap, e, h1, h2, h3, h4, h5, h6⟩ := h
    refine ⟨ao, cap, e, h1, h2, h3, h4, fun i x hi => ?_, fun b o e1 => ⟨hs _ (h6 b o e1).1, (h6 b o e1).2⟩⟩
    obtain ⟨b, off, q, e1, hlt, hc, hq⟩ := h5 i x hi
    exact ⟨b, off, q, e1, hlt, hc, hq.mono hs⟩
theorem ExS.later {S : Nat → Prop} {w w' : World} (hb : Below w.heap.size w w') {d : Nat} {e : ExprV} {cs : List Value} (h : ExS S w d e cs) : ExS S w' d e cs :=
  h.kept (KeptBut.of_below (S := fun _ => False) hb (Nat.le_refl _)) fun _ _ h => h
theorem ExR.cells_len (e : ExR) : e.cells.length = 4 := rfl
theorem one_exr : ∀ x : ExR, ∀ u ∈ x.cells, u.oneCell' = true := fun x u h => by
  simp only [ExR.cells, encX, List.mem_cons, List.not_mem_nil, or_false] at h
  rcases h with rfl | rfl | rfl | rfl <;> rfl
/-- a list of such, in a row of their own, is the list of kids -/
theorem kids_own {S : Nat → Prop} {w : World} {base d : Nat} {ao : Option Addr} {n cap : Nat} {l : List ExR} (ho : Own 4 ExR.cells 67 w base (.slice ao n cap) l) (hl : ∀ r ∈ l, ExS S w d r.tree r.cells) (hS : ∀ q, base ≤ q → S q) :
    KidsAt (ExS S w d) w ao (l.map ExR.tree) ∧ ∀ b o, ao = some ⟨b, o, none⟩ → S b ∧ b < w.heap.size := by
  refine ⟨fun i x hi => ?_, fun b o e => ?_⟩
  · rw [List.getElem?_map] at hi
    obtain ⟨r, hr, rfl⟩ := Option.map_eq_some_iff.1 hi
    have h0 : 0 < l.length := by have := (List.getElem?_eq_some_iff.1 hr).1; omega
    obtain ⟨g, cap', e, hb, hg, hc, _⟩ := ho.addr h0
    injection e with e1 e2 e3
    subst e1
    refine ⟨g, 0, r.cells, rfl, hg, fun j u hj => ?_, hl r (List.mem_of_getElem? hr)⟩
    have h1 := flat_get ExR.cells_len hr hj
    have hlt : i * 4 + j < l.length * 4 := by
      have h2 := (List.getElem?_eq_some_iff.1 hr).1
      have h3 := (List.getElem?_eq_some_iff.1 hj).1
      rw [ExR.cells_len] at h3
      omega
    rcases hc (i * 4 + j) with h2 | h2
    · rw [Nat.zero_add, h2]; exact h1
    · omega
  · subst e
    rcases ho.shape with ⟨h1, _⟩ | ⟨g, c, h1, _, h2, h3⟩
    · cases h1
    · injection h1 with h1
      cases h1
      exact ⟨hS _ h2, h3⟩
theorem infoExprR : (Tryz.prog.info? 67).map (fun i => (i.zero, i.size, i.bytes)) = some (some (.agg #[.int .i64 0, .int .i64 0, .string ⟨#[]⟩, .slice none 0 0]), 4, 56) := by kernel_rfl

/-- what has been found: k of those that are not left -/
def KindIs (w : List UInt8) (left : Lit → Bool) (k : Int) : Prop := k = if left (.int .i64 (kindN w)) = true ∨ kindN w = 0 then 0 else kindN w
theorem kindN_range (w : List UInt8) : 0 ≤ kindN w ∧ kindN w ≤ 10 := by
  unfold kindN
  repeat' split
  all_goals omega
theorem kindN_of {w : List UInt8} (h : kindN w ≠ 0) : nameK (kindN w) = w := by
  unfold kindN at h ⊢
  repeat' split
  all_goals first | (rename_i h1; exact h1.symm) | skip
  all_goals simp_all
theorem KindIs.start (w : List UInt8) : KindIs w (Maps.has namesD) 0 := by
  unfold KindIs
  have h := kindN_range w
  have h1 : kindN w = 0 ∨ kindN w = 1 ∨ kindN w = 2 ∨ kindN w = 3 ∨ kindN w = 4 ∨ kindN w = 5 ∨ kindN w = 6 ∨ kindN w = 7 ∨ kindN w = 8 ∨ kindN w = 9 ∨ kindN w = 10 := by omega
  rcases h1 with h1 | h1 | h1 | h1 | h1 | h1 | h1 | h1 | h1 | h1 | h1 <;> rw [h1]
  · simp
  all_goals exact (if_pos (.inl (by decide))).symm
theorem KindIs.done {w : List UInt8} {left : Lit → Bool} {k : Int} (h : KindIs w left k) (hl : ∀ kl, left kl = false) : k = kindN w := by
  unfold KindIs at h
  rw [hl] at h
  simp at h
  by_cases e : kindN w = 0
  · rw [h, if_pos e, e]
  · rw [h, if_neg e]
theorem names_key {x : Int} {c : List UInt8} (h : ∀ zd, DataW.atKey namesD (.int .i64 x) zd = .lit (.string c)) : (1 ≤ x ∧ x ≤ 10) ∧ c = nameK x := by
  by_cases hx : 1 ≤ x ∧ x ≤ 10
  · refine ⟨hx, ?_⟩
    have h1 : x = 1 ∨ x = 2 ∨ x = 3 ∨ x = 4 ∨ x = 5 ∨ x = 6 ∨ x = 7 ∨ x = 8 ∨ x = 9 ∨ x = 10 := by omega
    have h2 := h (.map [])
    rcases h1 with rfl | rfl | rfl | rfl | rfl | rfl | rfl | rfl | rfl | rfl <;> (injection h2 with h2; injection h2 with h2; exact h2.symm)
  · exfalso
    have e : ∀ zd, DataW.atKey namesD (.int .i64 x) zd = zd := fun zd => by
      have hf : namesL.find? (fun p => p.1.sameKey (.int .i64 x)) = none := by
        rw [List.find?_eq_none]
        intro p hp
        obtain ⟨k, hk, rfl⟩ := List.mem_map.1 hp
        simp only [List.mem_cons, List.not_mem_nil, or_false] at hk
        have : k ≠ x := by omega
        simp [Lit.sameKey, this]
      simp only [DataW.atKey, namesD, hf]
    have h3 := (e (.lit (.bool true))).symm.trans (h _)
    cases h3
theorem sameKey_int (a b : Int) : Lit.sameKey (.int .i64 a) (.int .i64 b) = decide (a = b) := by
  unfold Lit.sameKey
  by_cases h : a = b <;> simp [h]
theorem KindIs.hit {w : List UInt8} {left : Lit → Bool} {k x : Int} (_ : KindIs w left k) (hx : 1 ≤ x ∧ x ≤ 10) (hw : nameK x = w) : KindIs w (fun z => left z && !z.sameKey (.int .i64 x)) x := by
  have e : kindN w = x := by rw [← hw]; exact kindN_name hx
  unfold KindIs
  simp only [e, sameKey_int]
  simp
  try omega
theorem KindIs.miss {w : List UInt8} {left : Lit → Bool} {k x : Int} (h : KindIs w left k) (hx : 1 ≤ x ∧ x ≤ 10) (hw : nameK x ≠ w) : KindIs w (fun z => left z && !z.sameKey (.int .i64 x)) k := by
  unfold KindIs at *
  by_cases h0 : kindN w = 0
  · rw [h, if_pos (.inr h0), if_pos (.inr h0)]
  · have e : kindN w ≠ x := fun e => hw (by rw [← e]; exact kindN_of h0)
    rw [h]
    simp only [sameKey_int]
    simp [e]
theorem ranges_set {H : Type} {P : Program} {k : TypeId} {R : Value → Option (DataW H × List MemPlace)} {w : World} {b r n : Nat} {D : DataW H} {left : Lit → Bool} {cnt : Nat} (h : w.ranges P k R b r n D left cnt) {e j : Nat} (hb : b ≠ e) (hr : r ≠ e) (v : Value) : (w.setCell ⟨e, j, none⟩ v).ranges P k R b r n D left cnt := by
  have k := (KeptBut.refl (fun q => q = e) w).setCell (p := ⟨e, j, none⟩) rfl v
  exact h.kept (row := some e) ⟨k.os, k.tape, k.output, k.size, fun i hi hne => k.block i hi fun e2 => hne (by rw [e2])⟩ (by simpa using hb) (by simpa using hr)
theorem below_grown {w w' : World} (h : w.grownBy w' none) : Below w.heap.size w w' := ⟨h.os, h.tape, h.output, h.size, fun k hk => h.block k hk (by simp)⟩
theorem kept_grown {S : Nat → Prop} {w w' : World} {r : Nat} (h : w.grownBy w' (some r)) (hr : S r) : KeptBut S w w' := KeptBut.of_grown h fun k e => by cases e; exact hr
theorem cutAt_len2 (c : UInt8) (s : List UInt8) : (cutAt c s).1.length ≤ s.length ∧ (cutAt c s).2.1.length ≤ s.length := by
  rcases first_of c s with h | ⟨A, B, rfl, hA⟩
  · rw [cutAt_no h]; simp
  · rw [cutAt_yes hA]; simp; omega
theorem quoG_len : ∀ (l : List UInt8) {t r : List UInt8}, quoG l = some (t, r) → t.length ≤ l.length ∧ r.length ≤ l.length
  | [], t, r, h => by cases h
  | [c], t, r, h => by
    unfold quoG at h
    split at h
    · cases h; simp
    · cases h
  | c :: d :: l, t, r, h => by
    unfold quoG at h
    split at h
    · obtain ⟨p, hp, e⟩ := Option.map_eq_some_iff.1 h
      cases e
      have := quoG_len l hp
      simp only [List.length_cons]; omega
    · split at h
      · cases h; simp
      · obtain ⟨p, hp, e⟩ := Option.map_eq_some_iff.1 h
        cases e
        have := quoG_len (d :: l) hp
        simp only [List.length_cons] at this ⊢; omega
theorem quotedR_len (s : List UInt8) : (quotedR s).1.length ≤ s.length ∧ (quotedR s).2.1.length ≤ s.length := by
  by_cases h : [34].isPrefixOf s = true
  · cases hq : quoG (s.drop 1) with
    | none => rw [quotedR_none h hq]; simp
    | some p =>
      obtain ⟨t, r⟩ := p
      rw [quotedR_some h hq]
      have h1 := quoG_len _ hq
      rw [List.length_drop] at h1
      have h2 : (afterR [] r).length ≤ r.length := by unfold afterR; split <;> simp
      dsimp only
      omega
  · rw [quotedR_no (Bool.eq_false_iff.2 h)]; simp
theorem numR_len (k : Int) (s : List UInt8) : (numR k s).2.1.length ≤ s.length := by
  unfold numR
  split
  · exact (wordR_len s).2
  · exact Nat.le_refl _
theorem numR_bd (k : Int) (s : List UInt8) : -9223372036854775808 ≤ (numR k s).1 ∧ (numR k s).1 ≤ 9223372036854775807 := by
  unfold numR
  split
  · exact atoiV_bd
  · exact ⟨by show -9223372036854775808 ≤ (0 : Int); decide, by show (0 : Int) ≤ 9223372036854775807; decide⟩
theorem txtR_len (k : Int) (s : List UInt8) : (txtR k s).1.length ≤ s.length ∧ (txtR k s).2.1.length ≤ s.length := by
  unfold txtR
  split
  · exact quotedR_len s
  · simp
theorem readKids_bad (rd : List UInt8 → ExprV × List UInt8 × Bool) (s : List UInt8) : ∀ m, readKids rd m s true = ([], s, true)
  | 0 => rfl
  | m + 1 => by rw [readKids, if_pos rfl]
theorem readX_eq (f : Nat) (s : List UInt8) (bad : Bool) (k n : Int) (t s3 : List UInt8) (b1 b2 : Bool) (h : ((ownX s).1, (ownX s).2.1, (ownX s).2.2.1, (ownX s).2.2.2.1) = (k, n, t, s3)) (hb : ∀ q, q = (bad || (decide (f = 0) || (ownX s).2.2.2.2)) → q = b2) :
    readX f s bad = (.mk k n (tx t) (readKids (fun s => readX (f - 1) s false) (manyK k) s3 b2).1, (readKids (fun s => readX (f - 1) s false) (manyK k) s3 b2).2) := by
  simp only [Prod.mk.injEq] at h
  obtain ⟨h1, h2, h3, h4⟩ := h
  have hb2 := hb _ rfl
  cases f with
  | zero =>
    have : b2 = true := by rw [← hb2]; simp
    rw [readX, h1, h2, h3, h4, this, readKids_bad]
  | succ f =>
    have e : (bad || (ownX s).2.2.2.2) = b2 := by rw [← hb2]; simp
    rw [readX]
    simp only [h1, h2, h3, h4, e]
    rfl
theorem readKids_len {rd : List UInt8 → ExprV × List UInt8 × Bool} (h : ∀ s, (rd s).2.1.length ≤ s.length) : ∀ (m : Nat) (s : List UInt8) (b : Bool), (readKids rd m s b).2.1.length ≤ s.length
  | 0, s, b => Nat.le_refl _
  | m + 1, s, b => by
    rw [readKids]
    split
    · exact Nat.le_refl _
    · exact Nat.le_trans (readKids_len h m _ _) (h s)
theorem ownX_len (s : List UInt8) : (ownX s).2.2.2.1.length ≤ s.length := by
  unfold ownX
  have h1 := (wordR_len s).2
  have h2 := numR_len (kindN (wordR s).1) (wordR s).2
  have h3 := (txtR_len (kindN (wordR s).1) (numR (kindN (wordR s).1) (wordR s).2).2.1).2
  dsimp only
  omega
theorem readX_len : ∀ (f : Nat) (s : List UInt8) (b : Bool), (readX f s b).2.1.length ≤ s.length
  | 0, s, b => ownX_len s
  | f + 1, s, b => by
    rw [readX]
    exact Nat.le_trans (readKids_len (fun s => readX_len f s false) _ _ _) (ownX_len s)
theorem ExS.bound {S : Nat → Prop} {w : World} : ∀ {d : Nat} {e : ExprV} {cs : List Value}, ExS S w d e cs → ExS (fun q => S q ∧ q < w.heap.size) w d e cs
  | 0, _, _, h => h
  | d + 1, .mk k0 n s a, cs, h => by
    obtain ⟨ao, cap, e, h1, h2, h3, h4, h5, h6⟩ := h
    refine ⟨ao, cap, e, h1, h2, h3, h4, fun i x hi => ?_, fun b o e1 => ⟨⟨(h6 b o e1).1, (h6 b o e1).2⟩, (h6 b o e1).2⟩⟩
    obtain ⟨b, off, q, e1, hlt, hc, hq⟩ := h5 i x hi
    exact ⟨b, off, q, e1, hlt, hc, hq.bound⟩
/-- kids, in a row of their own, none of them in it -/
structure KidsIn (w : World) (base d : Nat) (v : Value) (l : List ExR) : Prop where
  own : Own 4 ExR.cells 67 w base v l
  kids : ∀ r ∈ l, ExS (fun q => base ≤ q ∧ v.ownBlock ≠ some q) w d r.tree r.cells
theorem KidsIn.nil {w : World} {base d : Nat} : KidsIn w base d (.slice none 0 0) [] := ⟨Own.nil, fun r hr => by cases hr⟩
/-- one more, which another call has made -/
theorem KidsIn.put {wr A w2 : World} {base d rb eb k : Nat} {v v' u : Value} {l : List ExR} {r : ExR} (h : KidsIn wr base d v l) (hrb : rb < base) (heb : eb < base) (hbs : base ≤ wr.heap.size) (hA : KeptBut (fun q => q = rb) wr A) (hr : ExS (fun q => wr.heap.size ≤ q) A d r.tree r.cells)
    (ho : Own 4 ExR.cells 67 w2 base v' (l ++ [r])) (hg : A.grownBy w2 v.ownBlock) (hat : v'.ownBlock = v.ownBlock ∨ v'.ownBlock = some A.heap.size) :
    KidsIn (w2.setCell ⟨eb, k, none⟩ u) base d v' (l ++ [r]) := by
  have hk2 : KeptBut (fun q => v.ownBlock = some q) A w2 := KeptBut.of_grown hg fun q e => e
  have hk3 := (KeptBut.refl (fun q => q = eb) w2).setCell (p := ⟨eb, k, none⟩) rfl u
  have all : ∀ x : ExR, ExS (fun q => base ≤ q ∧ v.ownBlock ≠ some q) A d x.tree x.cells → ExS (fun q => base ≤ q ∧ v'.ownBlock ≠ some q) (w2.setCell ⟨eb, k, none⟩ u) d x.tree x.cells := fun x hx => by
    have h1 := (hx.bound.kept hk2 fun q hq e => hq.1.2 e).mono (T := fun q => base ≤ q ∧ v'.ownBlock ≠ some q) fun q hq => ⟨hq.1.1, fun e => by
      rcases hat with e2 | e2
      · exact hq.1.2 (e2 ▸ e)
      · rw [e2] at e
        have h3 := Option.some.inj e
        have h4 := hq.2
        omega⟩
    exact h1.kept hk3 fun q hq e => by have := hq.1; omega
  refine ⟨ho.setOther (fun e => by have := (ho.lt eb e).1; omega) u, fun x hx => all x ?_⟩
  rcases List.mem_append.1 hx with hx | hx
  · exact (h.kids x hx).kept hA fun q hq e => by have := hq.1; omega
  · rw [List.mem_singleton.1 hx]
    exact hr.mono fun q hq => ⟨by omega, fun e => by have := (h.own.lt q e).2; omega⟩
theorem Bk.set4 {w : World} {b : Nat} {a0 a1 a2 a3 : Value} (v0 v1 v2 v3 : Value) (h : Bk w b [a0, a1, a2, a3]) : Bk ((((w.setCell ⟨b, 0, none⟩ v0).setCell ⟨b, 1, none⟩ v1).setCell ⟨b, 2, none⟩ v2).setCell ⟨b, 3, none⟩ v3) b [v0, v1, v2, v3] :=
  (((h.set (k := 0) (u := a0) v0 rfl).set (k := 1) (u := a1) v1 rfl).set (k := 2) (u := a2) v2 rfl).set (k := 3) (u := a3) v3 rfl
theorem kept_set4 {S : Nat → Prop} {w W : World} {b : Nat} (v0 v1 v2 v3 : Value) (h : KeptBut S w W) (hb : S b ∨ w.heap.size ≤ b) : KeptBut S w ((((W.setCell ⟨b, 0, none⟩ v0).setCell ⟨b, 1, none⟩ v1).setCell ⟨b, 2, none⟩ v2).setCell ⟨b, 3, none⟩ v3) := by
  rcases hb with hb | hb
  · exact (((h.setCell (p := ⟨b, 0, none⟩) hb _).setCell (p := ⟨b, 1, none⟩) hb _).setCell (p := ⟨b, 2, none⟩) hb _).setCell (p := ⟨b, 3, none⟩) hb _
  · exact (((h.setNew (p := ⟨b, 0, none⟩) hb _).setNew (p := ⟨b, 1, none⟩) hb _).setNew (p := ⟨b, 2, none⟩) hb _).setNew (p := ⟨b, 3, none⟩) hb _
/-- the tree whose kids these are -/
theorem KidsIn.tree {w : World} {base d : Nat} {ea : Option Addr} {ec : Nat} {l : List ExR} {k n : Int} {t : ByteArray} {S : Nat → Prop} (h : KidsIn w base d (.slice ea l.length ec) l) (hk : -9223372036854775808 ≤ k ∧ k ≤ 9223372036854775807) (hn : -9223372036854775808 ≤ n ∧ n ≤ 9223372036854775807) (ht : t.size ≤ maxLen) (hl : l.length ≤ maxLen) (hS : ∀ q, base ≤ q → S q) :
    ExS S w (d + 1) (.mk k n t (l.map ExR.tree)) (encX k n t ea (l.map ExR.tree).length ec) := by
  obtain ⟨h1, h2⟩ := kids_own (S := S) h.own (fun r hr => (h.kids r hr).mono fun q hq => hS q hq.1) hS
  exact ⟨ea, ec, rfl, hk, hn, ht, by rw [List.length_map]; exact hl, h1, h2⟩
end Go.Proofs.YtgeedjlbajmdkaaGreatDoor
namespace Go.Proofs.YtgeedjlbajmdkaaGreatDoor
open Go.RowKit

theorem ruleF_cond {r : RuleV} (h : condF r ≠ 0) : ruleF r = condF r := if_pos h
theorem ruleF_key {r : RuleV} (h : condF r = 0) (hk : faultE r.key true r.each ≠ 0) : ruleF r = faultE r.key true r.each := by
  unfold ruleF; rw [if_neg (by rw [h]; simp), if_pos hk]
theorem ruleF_val {r : RuleV} (h : condF r = 0) (hk : faultE r.key true r.each = 0) : ruleF r = faultE r.val false r.each := by
  unfold ruleF; rw [if_neg (by rw [h]; simp), if_neg (by rw [hk]; simp)]
theorem condF_0 {r : RuleV} (h : r.when_ = 0) : condF r = if r.txt.toList.isEmpty = true ∧ blankE r.cond = true then 0 else 3 := if_pos h
theorem condF_12 {r : RuleV} (h : r.when_ = 1 ∨ r.when_ = 2) : condF r = if r.txt.size ≤ 20 ∧ decide (0 ≤ Lib.indexByte r.txt.data.toList 10) = false then faultE r.cond true r.each else 3 := by
  unfold condF; rw [if_neg (by omega), if_pos h]
theorem condF_no {r : RuleV} (h : ¬ r.when_ = 0) (h1 : ¬ (r.when_ = 1 ∨ r.when_ = 2)) : condF r = 3 := by
  unfold condF; rw [if_neg h, if_neg h1]
set_option maxRecDepth 100000 in
set_option maxHeartbeats 4000000 in
theorem rule_any (r : RuleR) (d : Nat) (w : World) (h : RuleAt w d r) :
    Calls Tryz.prog 40 #[r.agg] w fun e w' => e = .returned (errV (ruleF r.v)) ∧ Below w.heap.size w w' := by
  obtain ⟨each, wh, ⟨ck, cn, cs, cao, ccap, ca⟩, txt, ⟨kk, kn, ks, kao, kcap, ka⟩, ⟨vk, vn, vs, vao, vcap, va⟩⟩ := r
  obtain ⟨hc, hk, hv, ht⟩ := h
  unfold ExR.tree ExR.cells at hc hk hv
  dsimp only at hc hk hv ht
  obtain ⟨W, hW⟩ : ∃ W, W = w.alloc (.cells #[.bool each, .int .i64 wh, .int .i64 ck, .int .i64 cn, .string cs, .slice cao ca.length ccap, .string txt, .int .i64 kk, .int .i64 kn, .string ks, .slice kao ka.length kcap, .int .i64 vk, .int .i64 vn, .string vs, .slice vao va.length vcap] 69) := ⟨_, rfl⟩
  have hb0 : Below w.heap.size w W := by rw [hW]; exact (Below.refl _ _).alloc (Nat.le_refl _) _
  have hbk : Bk W w.heap.size [.bool each, .int .i64 wh, .int .i64 ck, .int .i64 cn, .string cs, .slice cao ca.length ccap, .string txt, .int .i64 kk, .int .i64 kn, .string ks, .slice kao ka.length kcap, .int .i64 vk, .int .i64 vn, .string vs, .slice vao va.length vcap] := by rw [hW]; exact Bk.new rfl
  have c0 := hbk.get (j := 0) rfl
  have c1 := hbk.get (j := 1) rfl
  have c2 := hbk.get (j := 2) rfl
  have c3 := hbk.get (j := 3) rfl
  have c4 := hbk.get (j := 4) rfl
  have c5 := hbk.get (j := 5) rfl
  have c6 := hbk.get (j := 6) rfl
  have c7 := hbk.get (j := 7) rfl
  have c8 := hbk.get (j := 8) rfl
  have c9 := hbk.get (j := 9) rfl
  have c10 := hbk.get (j := 10) rfl
  have c11 := hbk.get (j := 11) rfl
  have c12 := hbk.get (j := 12) rfl
  have c13 := hbk.get (j := 13) rfl
  have c14 := hbk.get (j := 14) rfl
  have HCC := hide fun w' (hb : Below w.heap.size w w') => Check_any d ck cn cs ca cao ccap w' true each (hc.later hb (Nat.le_refl _))
  have HKC := hide fun w' (hb : Below w.heap.size w w') => Check_any d kk kn ks ka kao kcap w' true each (hk.later hb (Nat.le_refl _))
  have HVC := hide fun w' (hb : Below w.heap.size w w') => Check_any d vk vn vs va vao vcap w' false each (hv.later hb (Nat.le_refl _))
  have HB := hide hb0
  obtain ⟨R, hR⟩ : ∃ R : RuleV, R = ⟨each, wh, .mk ck cn cs ca, txt, .mk kk kn ks ka, .mk vk vn vs va⟩ := ⟨_, rfl⟩
  have HFC : Hid (faultE R.cond true R.each = faultE (.mk ck cn cs ca) true each) := by rw [hR]; rfl
  have HFK : Hid (faultE R.key true R.each = faultE (.mk kk kn ks ka) true each) := by rw [hR]; rfl
  have HFV : Hid (faultE R.val false R.each = faultE (.mk vk vn vs va) false each) := by rw [hR]; rfl
  have HRW : Hid (R.when_ = wh) := by rw [hR]; rfl
  have HRT : Hid (R.txt = txt) := by rw [hR]; rfl
  have HRB : Hid (blankE R.cond = ((ck == 0) && ((cn == 0) && (cs.toList.isEmpty && ca.isEmpty)))) := by rw [hR]; rfl
  rw [show RuleR.v ⟨each, wh, ⟨ck, cn, cs, cao, ccap, ca⟩, txt, ⟨kk, kn, ks, kao, kcap, ka⟩, ⟨vk, vn, vs, vao, vcap, va⟩⟩ = R from hR.symm]
  generalize faultE (.mk ck cn cs ca) true each = fc at *
  generalize faultE (.mk kk kn ks ka) true each = fk at *
  generalize faultE (.mk vk vn vs va) false each = fv at *
  have HWW := hide hW
  clear hR hc hk hv hb0 hbk hW
  unfold maxLen at ht
  show Calls Tryz.prog 40 #[.agg #[.bool each, .int .i64 wh, .int .i64 ck, .int .i64 cn, .string cs, .slice cao ca.length ccap, .string txt, .int .i64 kk, .int .i64 kn, .string ks, .slice kao ka.length kcap, .int .i64 vk, .int .i64 vn, .string vs, .slice vao va.length vcap]] w _
  go_enter Tryz.func40, Tryz.ntmps40
  go_upto_region 1 with (fail)
  rw [← HWW.out]
  clear HWW
  by_cases hw0 : wh = 0
  · have HC0 : Hid (condF R = if txt.toList.isEmpty = true ∧ ((ck == 0) && ((cn == 0) && (cs.toList.isEmpty && ca.isEmpty))) = true then 0 else 3) := by
      show _ = _
      rw [condF_0 (by rw [HRW.out]; exact hw0), HRT.out, HRB.out]
    have g1 : (wh == 0) = true := by simpa using hw0
    clear hw0 HFC HCC HRW HRT HRB
    obtain ⟨te, hte⟩ : ∃ te, txt.toList.isEmpty = te := ⟨_, rfl⟩
    cases te
    · have HC3 : Hid (condF R = 3) := by show _ = _; rw [HC0.out, hte]; rfl
      have HT : Hid (ruleF R = 3) := by show _ = _; rw [ruleF_cond (by rw [HC3.out]; decide), HC3.out]
      go_wp2
      go_ret
      exact ⟨by rw [HT.out]; rfl, HB.out⟩
    by_cases hck : ck = 0
    case neg =>
      have HC3 : Hid (condF R = 3) := by
        show _ = _
        rw [HC0.out, show (ck == 0) = false from beq_eq_false_iff_ne.2 hck]; simp
      have g4 : (ck != 0) = true := by simpa using hck
      have HT : Hid (ruleF R = 3) := by show _ = _; rw [ruleF_cond (by rw [HC3.out]; decide), HC3.out]
      go_wp2
      go_ret
      exact ⟨by rw [HT.out]; rfl, HB.out⟩
    have hke : (ck == 0) = true := by simpa using hck
    have g5 : (ck != 0) = false := by simpa using hck
    by_cases hcn : cn = 0
    case neg =>
      have HC3 : Hid (condF R = 3) := by
        show _ = _
        rw [HC0.out, show (cn == 0) = false from beq_eq_false_iff_ne.2 hcn]; simp
      have g4 : (cn != 0) = true := by simpa using hcn
      have HT : Hid (ruleF R = 3) := by show _ = _; rw [ruleF_cond (by rw [HC3.out]; decide), HC3.out]
      go_wp2
      go_ret
      exact ⟨by rw [HT.out]; rfl, HB.out⟩
    have hne : (cn == 0) = true := by simpa using hcn
    have g6 : (cn != 0) = false := by simpa using hcn
    obtain ⟨se, hse⟩ : ∃ se, cs.toList.isEmpty = se := ⟨_, rfl⟩
    cases se
    · have HC3 : Hid (condF R = 3) := by show _ = _; rw [HC0.out, hse]; simp
      have HT : Hid (ruleF R = 3) := by show _ = _; rw [ruleF_cond (by rw [HC3.out]; decide), HC3.out]
      go_wp2
      go_ret
      exact ⟨by rw [HT.out]; rfl, HB.out⟩
    by_cases hca : 0 < ca.length
    · have HC3 : Hid (condF R = 3) := by
        show _ = _
        rw [HC0.out]
        cases ca with
        | nil => simp at hca
        | cons a l => simp
      have g2 : decide (0 < ca.length) = true := by simpa using hca
      have g3 : decide ((0 : Int) < (ca.length : Int)) = true := by simp; omega
      have HT : Hid (ruleF R = 3) := by show _ = _; rw [ruleF_cond (by rw [HC3.out]; decide), HC3.out]
      go_wp2
      go_ret
      exact ⟨by rw [HT.out]; rfl, HB.out⟩
    have HCF : Hid (condF R = 0) := by
      show _ = _
      rw [HC0.out, hte, hke, hne, hse]
      obtain rfl : ca = [] := List.length_eq_zero_iff.1 (by omega)
      rfl
    have g2 : decide (0 < ca.length) = false := by simpa using hca
    have g3 : decide ((0 : Int) < (ca.length : Int)) = false := by rw [decide_eq_false_iff_not]; omega
    clear HC0 hca hck hcn hke hne
    go_wp2_with fail
    refine (HKC.out _ HB.out).mono ?_
    rintro e w5 ⟨rfl, b5⟩
    replace c0 := cell_later b5 c0
    replace c11 := cell_later b5 c11
    replace c12 := cell_later b5 c12
    replace c13 := cell_later b5 c13
    replace c14 := cell_later b5 c14
    replace HB := hide (HB.out.trans (b5.mono HB.out.size))
    clear b5 HKC
    by_cases hfk : fk = 0
    · have HT : Hid (ruleF R = fv) := by
        show _ = _
        rw [← HFV.out]
        exact ruleF_val HCF.out (by rw [HFK.out]; exact hfk)
      rw [hfk, errV_zero]
      clear HFK HFV hfk
      go_wp2_with fail
      refine (HVC.out _ HB.out).mono ?_
      rintro e w6 ⟨rfl, b6⟩
      replace HB := hide (HB.out.trans (b6.mono HB.out.size))
      clear b6 HVC
      go_wp2
      go_ret
      exact ⟨by rw [HT.out]; rfl, HB.out⟩
    · have HT : Hid (ruleF R = fk) := by
        show _ = _
        rw [← HFK.out]
        exact ruleF_key HCF.out (by rw [HFK.out]; exact hfk)
      rw [errV_pos hfk]
      have HFE := hide (errV_pos hfk)
      clear HFK HFV hfk HVC
      go_wp2
      go_ret
      exact ⟨by rw [HT.out, HFE.out]; rfl, HB.out⟩
  · have g1 : (wh == 0) = false := by simpa using hw0
    by_cases hw1 : wh = 1 ∨ wh = 2
    · have HC0 : Hid (condF R = if txt.size ≤ 20 ∧ decide (0 ≤ Lib.indexByte txt.data.toList 10) = false then fc else 3) := by
        show _ = _
        rw [condF_12 (by rw [HRW.out]; exact hw1), HRT.out, HFC.out]
      clear hw0 HFC HRW HRT HRB
      by_cases ht20 : 20 < txt.size
      · have HC3 : Hid (condF R = 3) := by show _ = _; rw [HC0.out, if_neg (by omega)]
        have g4 : decide ((20 : Int) < (txt.size : Int)) = true := by simp; omega
        rcases hw1 with h1 | h1
        · have g2 : (wh == 1) = true := by rw [h1]; rfl
          clear h1
          have HT : Hid (ruleF R = 3) := by show _ = _; rw [ruleF_cond (by rw [HC3.out]; decide), HC3.out]
          go_wp2
          go_ret
          exact ⟨by rw [HT.out]; rfl, HB.out⟩
        · have g2 : (wh == 1) = false := by rw [h1]; rfl
          have g3 : (wh == 2) = true := by rw [h1]; rfl
          clear h1
          have HT : Hid (ruleF R = 3) := by show _ = _; rw [ruleF_cond (by rw [HC3.out]; decide), HC3.out]
          go_wp2
          go_ret
          exact ⟨by rw [HT.out]; rfl, HB.out⟩
      have g4 : decide ((20 : Int) < (txt.size : Int)) = false := by simp; omega
      have HST := hide fun w' => Tryz.strings_Contains_one txt 10 w'
      obtain ⟨io, hio⟩ : ∃ io, decide (0 ≤ Lib.indexByte txt.data.toList 10) = io := ⟨_, rfl⟩
      rw [hio] at HC0
      simp only [hio] at HST
      clear hio
      rcases hw1 with h1 | h1
      · have g2 : (wh == 1) = true := by rw [h1]; rfl
        clear h1
        go_wp2_with fail
        refine (HST.out _).mono ?_
        rintro e w3 ⟨rfl, rfl⟩
        clear HST
        cases io
        · have HCE : Hid (condF R = fc) := by show _ = _; rw [HC0.out, if_pos ⟨Nat.le_of_not_lt ht20, rfl⟩]
          clear HC0
          go_wp2_with fail
          refine (HCC.out _ HB.out).mono ?_
          rintro e w4 ⟨rfl, b4⟩
          replace c0 := cell_later b4 c0
          replace c7 := cell_later b4 c7
          replace c8 := cell_later b4 c8
          replace c9 := cell_later b4 c9
          replace c10 := cell_later b4 c10
          replace c11 := cell_later b4 c11
          replace c12 := cell_later b4 c12
          replace c13 := cell_later b4 c13
          replace c14 := cell_later b4 c14
          replace HB := hide (HB.out.trans (b4.mono HB.out.size))
          clear b4 HCC
          by_cases hfc : fc = 0
          · have HCF : Hid (condF R = 0) := by show _ = _; rw [HCE.out]; exact hfc
            rw [hfc, errV_zero]
            clear HCE hfc
            go_wp2_with fail
            refine (HKC.out _ HB.out).mono ?_
            rintro e w5 ⟨rfl, b5⟩
            replace c0 := cell_later b5 c0
            replace c11 := cell_later b5 c11
            replace c12 := cell_later b5 c12
            replace c13 := cell_later b5 c13
            replace c14 := cell_later b5 c14
            replace HB := hide (HB.out.trans (b5.mono HB.out.size))
            clear b5 HKC
            by_cases hfk : fk = 0
            · have HT : Hid (ruleF R = fv) := by
                show _ = _
                rw [← HFV.out]
                exact ruleF_val HCF.out (by rw [HFK.out]; exact hfk)
              rw [hfk, errV_zero]
              clear HFK HFV hfk
              go_wp2_with fail
              refine (HVC.out _ HB.out).mono ?_
              rintro e w6 ⟨rfl, b6⟩
              replace HB := hide (HB.out.trans (b6.mono HB.out.size))
              clear b6 HVC
              go_wp2
              go_ret
              exact ⟨by rw [HT.out]; rfl, HB.out⟩
            · have HT : Hid (ruleF R = fk) := by
                show _ = _
                rw [← HFK.out]
                exact ruleF_key HCF.out (by rw [HFK.out]; exact hfk)
              rw [errV_pos hfk]
              have HFE := hide (errV_pos hfk)
              clear HFK HFV hfk HVC
              go_wp2
              go_ret
              exact ⟨by rw [HT.out, HFE.out]; rfl, HB.out⟩
          · have HT : Hid (ruleF R = fc) := by show _ = _; rw [ruleF_cond (by rw [HCE.out]; exact hfc), HCE.out]
            rw [errV_pos hfc]
            have HFE := hide (errV_pos hfc)
            clear HCE HFK HFV hfc HVC HKC
            go_wp2
            go_ret
            exact ⟨by rw [HT.out, HFE.out]; rfl, HB.out⟩
        · have HC3 : Hid (condF R = 3) := by show _ = _; rw [HC0.out, if_neg (by simp)]
          have HT : Hid (ruleF R = 3) := by show _ = _; rw [ruleF_cond (by rw [HC3.out]; decide), HC3.out]
          go_wp2
          go_ret
          exact ⟨by rw [HT.out]; rfl, HB.out⟩
      · have g2 : (wh == 1) = false := by rw [h1]; rfl
        have g3 : (wh == 2) = true := by rw [h1]; rfl
        clear h1
        go_wp2_with fail
        refine (HST.out _).mono ?_
        rintro e w3 ⟨rfl, rfl⟩
        clear HST
        cases io
        · have HCE : Hid (condF R = fc) := by show _ = _; rw [HC0.out, if_pos ⟨Nat.le_of_not_lt ht20, rfl⟩]
          clear HC0
          go_wp2_with fail
          refine (HCC.out _ HB.out).mono ?_
          rintro e w4 ⟨rfl, b4⟩
          replace c0 := cell_later b4 c0
          replace c7 := cell_later b4 c7
          replace c8 := cell_later b4 c8
          replace c9 := cell_later b4 c9
          replace c10 := cell_later b4 c10
          replace c11 := cell_later b4 c11
          replace c12 := cell_later b4 c12
          replace c13 := cell_later b4 c13
          replace c14 := cell_later b4 c14
          replace HB := hide (HB.out.trans (b4.mono HB.out.size))
          clear b4 HCC
          by_cases hfc : fc = 0
          · have HCF : Hid (condF R = 0) := by show _ = _; rw [HCE.out]; exact hfc
            rw [hfc, errV_zero]
            clear HCE hfc
            go_wp2_with fail
            refine (HKC.out _ HB.out).mono ?_
            rintro e w5 ⟨rfl, b5⟩
            replace c0 := cell_later b5 c0
            replace c11 := cell_later b5 c11
            replace c12 := cell_later b5 c12
            replace c13 := cell_later b5 c13
            replace c14 := cell_later b5 c14
            replace HB := hide (HB.out.trans (b5.mono HB.out.size))
            clear b5 HKC
            by_cases hfk : fk = 0
            · have HT : Hid (ruleF R = fv) := by
                show _ = _
                rw [← HFV.out]
                exact ruleF_val HCF.out (by rw [HFK.out]; exact hfk)
              rw [hfk, errV_zero]
              clear HFK HFV hfk
              go_wp2_with fail
              refine (HVC.out _ HB.out).mono ?_
              rintro e w6 ⟨rfl, b6⟩
              replace HB := hide (HB.out.trans (b6.mono HB.out.size))
              clear b6 HVC
              go_wp2
              go_ret
              exact ⟨by rw [HT.out]; rfl, HB.out⟩
            · have HT : Hid (ruleF R = fk) := by
                show _ = _
                rw [← HFK.out]
                exact ruleF_key HCF.out (by rw [HFK.out]; exact hfk)
              rw [errV_pos hfk]
              have HFE := hide (errV_pos hfk)
              clear HFK HFV hfk HVC
              go_wp2
              go_ret
              exact ⟨by rw [HT.out, HFE.out]; rfl, HB.out⟩
          · have HT : Hid (ruleF R = fc) := by show _ = _; rw [ruleF_cond (by rw [HCE.out]; exact hfc), HCE.out]
            rw [errV_pos hfc]
            have HFE := hide (errV_pos hfc)
            clear HCE HFK HFV hfc HVC HKC
            go_wp2
            go_ret
            exact ⟨by rw [HT.out, HFE.out]; rfl, HB.out⟩
        · have HC3 : Hid (condF R = 3) := by show _ = _; rw [HC0.out, if_neg (by simp)]
          have HT : Hid (ruleF R = 3) := by show _ = _; rw [ruleF_cond (by rw [HC3.out]; decide), HC3.out]
          go_wp2
          go_ret
          exact ⟨by rw [HT.out]; rfl, HB.out⟩
    · have HC3 : Hid (condF R = 3) := condF_no (by rw [HRW.out]; exact hw0) (by rw [HRW.out]; exact hw1)
      have g2 : (wh == 1) = false := by rw [beq_eq_false_iff_ne]; omega
      have g3 : (wh == 2) = false := by rw [beq_eq_false_iff_ne]; omega
      clear hw0 hw1
      have HT : Hid (ruleF R = 3) := by show _ = _; rw [ruleF_cond (by rw [HC3.out]; decide), HC3.out]
      go_wp2
      go_ret
      exact ⟨by rw [HT.out]; rfl, HB.out⟩
end Go.Proofs.YtgeedjlbajmdkaaGreatDoor
/- A job that comes in as an argument. -/
namespace Go.Proofs.YtgeedjlbajmdkaaGreatDoor
open Go.RowKit Go.ChangeShapes Go.WideShapes Go.ChangeAt

theorem slc_capJ {H : Type} {enc0 : TypeId × Value → H} {P : Program} {w : World} {t e : TypeId} {ao : Option Addr} {n cap : Nat}
    (ht : P.underlying t = some (.slice e)) {x : DataW H × List MemPlace} {fuel : Nat} (hf : DataW.trod enc0 P w 0 (fun _ => true) true fuel t [.slice ao n cap] = some x) : n ≤ cap ∧ cap ≤ maxLen := by
  rcases Deep.open_slice ht hf with ⟨hcs, _⟩ | ⟨a', len', cap', m, k, D, Pl, hcs, _, hl, hm, _⟩
  · simp at hcs
    obtain ⟨_, rfl, rfl⟩ := hcs
    exact ⟨by omega, by simp⟩
  · simp at hcs
    obtain ⟨_, rfl, rfl⟩ := hcs
    exact ⟨hl, hm⟩
theorem rules_deep {w : World} : ∀ {rs : List RuleR}, (∀ r ∈ rs, ∃ d, RuleAt w d r) → ∃ d, ∀ r ∈ rs, RuleAt w d r
  | [], _ => ⟨0, fun r hr => by cases hr⟩
  | a :: rs, h => by
    obtain ⟨d1, h1⟩ := h a List.mem_cons_self
    obtain ⟨d2, h2⟩ := rules_deep (rs := rs) fun r hr => h r (List.mem_cons_of_mem _ hr)
    refine ⟨max d1 d2, fun r hr => ?_⟩
    rcases List.mem_cons.1 hr with rfl | hr
    · exact h1.more (Nat.le_max_left _ _)
    · exact (h2 r hr).more (Nat.le_max_right _ _)
/-- a job that comes in -/
structure JobIn (w : World) (ro : Option Addr) (rc : Nat) (rs : List RuleR) (fold slices : Int) : Prop where
  nil : ro = none → rc = 0
  sl : Sl 15 encRule w ro rs
  len : rs.length ≤ maxLen
  at_ : ∀ r ∈ rs, ∃ d, RuleAt w d r
  cap : rs.length ≤ rc ∧ rc ≤ maxLen
  fold : -9223372036854775808 ≤ fold ∧ fold ≤ 9223372036854775807
  slices : -9223372036854775808 ≤ slices ∧ slices ≤ 9223372036854775807
theorem cells_job : Tryz.prog.cellsOf 24 = 4 := by kernel_rfl
theorem cells_rules : Tryz.prog.cellsOf 22 = 1 := by kernel_rfl
set_option maxRecDepth 100000 in
theorem open_job {H : Type} {enc0 : TypeId × Value → H} {w : World} {cs : Array Value} {d : DataW H} {ps : List MemPlace} (h : DataW.Trod enc0 Tryz.prog w 0 (fun _ => true) true 24 (.agg cs) d ps) :
    ∃ ro rc rs fold early slices, Value.agg cs = .agg #[.slice ro (List.length (α := RuleR) rs) rc, .int .i64 fold, .bool early, .int .i64 slices] ∧ JobIn w ro rc rs fold slices := by
  obtain ⟨fuel, hf⟩ := h
  obtain ⟨xs, n, _, _, hl, hlen, hf⟩ := DataW.trod_struct Tryz.underlying24 hf
  match xs, hlen with
  | [y0, y1, y2, y3], _ =>
    have h0 := by simpa using hf 0 _ rfl
    have h1 := by simpa using hf 1 _ rfl
    have h2 := by simpa using hf 2 _ rfl
    have h3 := by simpa using hf 3 _ rfl
    rw [cells_job] at hl
    obtain ⟨fold, e1, _, w1⟩ := DataW.trod_int Tryz.underlying3 h1
    obtain ⟨early, e2, _⟩ := DataW.trod_bool Tryz.underlying4 h2
    obtain ⟨slices, e3, _, w3⟩ := DataW.trod_int Tryz.underlying3 h3
    try dsimp only at e1 e2 e3 h0
    rw [cells_rules] at h0
    rw [cells_int] at e1 e3
    rw [cells_bool1] at e2
    obtain ⟨ro, rc, rs, e0, k1, k2, k3, k4⟩ := open_slc Tryz.underlying22 cells_rule (by decide) el_rule h0
    have hc := slc_capJ Tryz.underlying22 (e0 ▸ h0)
    have b1 := bounds_i64 w1
    have b3 := bounds_i64 w3
    match cs, hl with
    | ⟨[c0, c1, c2, c3]⟩, _ =>
      simp [Value.cells] at e0 e1 e2 e3
      exact ⟨ro, rc, rs, fold, early, slices, by rw [e0, e1, e2, e3], k1, k2, k3, k4, hc, by omega, by omega⟩
theorem open_rule {H : Type} {enc0 : TypeId × Value → H} {w : World} {cs : Array Value} {d : DataW H} {ps : List MemPlace} (h : DataW.Trod enc0 Tryz.prog w 0 (fun _ => true) true 69 (.agg cs) d ps) :
    ∃ r : RuleR, Value.agg cs = r.agg ∧ ∃ d, RuleAt w d r := by
  obtain ⟨fuel, hf⟩ := h
  obtain ⟨r, hcs, hd⟩ := el_rule fuel _ _ hf
  have h2 : cs.toList = encRule r := by simpa [Value.cells] using hcs
  have h3 : cs = (encRule r).toArray := by rw [← h2]
  exact ⟨r, by rw [h3]; rfl, hd⟩
theorem el_txtJ {H : Type} {enc0 : TypeId × Value → H} {w : World} (fuel : Nat) (cs : List Value) (x) (h : DataW.trod enc0 Tryz.prog w 0 (fun _ => true) true fuel 9 cs = some x) : ∃ a : ByteArray, cs = encS a ∧ a.size ≤ maxLen := by
  obtain ⟨a, rfl, _, hs⟩ := DataW.trod_string Tryz.underlying9 h
  exact ⟨a, rfl, hs⟩
theorem open_texts {H : Type} {enc0 : TypeId × Value → H} {w : World} {v : Value} {d : DataW H} {ps : List MemPlace} (hv : ∃ a len cap, v = .slice a len cap) (h : DataW.Trod enc0 Tryz.prog w 0 (fun _ => true) true 42 v d ps) :
    ∃ ao cap l, v = .slice ao (List.length (α := ByteArray) l) cap ∧ (ao = none → cap = 0) ∧ Sl 1 encS w ao l ∧ l.length ≤ maxLen ∧ ∀ x ∈ l, x.size ≤ maxLen := by
  obtain ⟨a, len, cap, rfl⟩ := hv
  obtain ⟨fuel, hf⟩ := h
  obtain ⟨ao, c, l, e, k1, k2, k3, k4⟩ := open_slc Tryz.underlying42 cells_txt (by decide) el_txtJ hf
  simp [Value.cells] at e
  obtain ⟨rfl, rfl, rfl⟩ := e
  exact ⟨_, _, l, rfl, k1, k2, k3, k4⟩
end Go.Proofs.YtgeedjlbajmdkaaGreatDoor
/- A job that comes in as an argument, and how many nodes its expressions have. -/
namespace Go.Proofs.YtgeedjlbajmdkaaGreatDoor
open Go.RowKit Go.ChangeShapes Go.WideShapes Go.ChangeAt

theorem open_slcB {H : Type} {enc0 : TypeId × Value → H} {P : Program} {w : World} {t e : TypeId} {sz : Nat} {α : Type} [Inhabited α] {enc : α → List Value} {ok : DataW H → α → Prop}
    (ht : P.underlying t = some (.slice e)) (hsz : P.cellsOf e = sz) (h0 : 0 < sz)
    (hel : ∀ fuel cs x, DataW.trod enc0 P w 0 (fun _ => true) true fuel e cs = some x → ∃ a, cs = enc a ∧ ok x.1 a)
    {cs : List Value} {x : DataW H × List MemPlace} {fuel : Nat} (hf : DataW.trod enc0 P w 0 (fun _ => true) true fuel t cs = some x) :
    ∃ ao cap, ∃ l : List α, cs = [.slice ao l.length cap] ∧ (ao = none → cap = 0) ∧ Sl sz enc w ao l ∧ l.length ≤ maxLen ∧ ∀ y ∈ l, ∃ dy, ok dy y ∧ Rows.uptoBulk dy ≤ Rows.uptoBulk x.1 := by
  rcases Deep.open_slice ht hf with ⟨hcs, _⟩ | ⟨a', len', cap', m, n, D, Pl, hcs, _, hl, hm, hmm, hy3, hall⟩
  · subst hcs
    exact ⟨none, 0, [], rfl, fun _ => rfl, Sl.nil, by simp, by simp⟩
  · subst hcs
    have hm' : len' ≤ m := by rw [hmm]; split <;> omega
    obtain ⟨f, hfx⟩ := Deep.choose_lt (n := len') (p := fun i (y : α) => w.cells? 0 (a'.add (i * sz)) sz = some (enc y) ∧ ∃ dy, ok dy y ∧ Rows.uptoBulk dy ≤ Rows.uptoBulk x.1) (fun i hi => by
      obtain ⟨cs', h1, h2⟩ := hall i (by omega)
      obtain ⟨y, hy, hok⟩ := hel _ _ _ h2
      rw [hsz] at h1
      refine ⟨y, by rw [← hy]; exact h1, D i, hok, ?_⟩
      have hb := bulk_mem D hi
      have h2 : Rows.uptoBulkAll ((List.range len').map D) + 1 ≤ Rows.uptoBulk x.1 := by
        rw [hy3]; simp only [Rows.uptoBulk]; omega
      omega)
    refine ⟨some a', cap', (List.range len').map f, by simp, (fun h => by cases h), ?_, by simp; omega, fun x hx => ?_⟩
    · intro hpos
      have hpos' : 0 < len' := by simpa using hpos
      obtain ⟨b, off, sp⟩ := a'
      obtain ⟨c0, c1⟩ := cells_cell (hfx 0 hpos').1
      obtain ⟨v0, hv0⟩ : ∃ v, (enc (f 0))[0]? = some v := by
        rw [List.getElem?_eq_getElem (by omega)]; exact ⟨_, rfl⟩
      have hc0 := c1 0 v0 hv0
      have hsp : sp = none := by
        have := World.cell?_spot hc0
        simpa [Addr.add] using this
      subst hsp
      refine ⟨b, off, rfl, ?_, fun i x j v hi hj => ?_⟩
      · have := World.block_lt_of_cell? w _ hc0
        rw [add_at _ _ _ _ rfl, add_at _ _ _ _ rfl] at this
        exact this
      · have hi' : i < len' := by
          have := (List.getElem?_eq_some_iff.1 hi).1
          simpa using this
        have hx : f i = x := by
          rw [List.getElem?_map, List.getElem?_range hi'] at hi
          simpa using hi
        subst hx
        have := (cells_cell (hfx i hi').1).2 j v hj
        rw [add_at _ _ _ _ rfl, add_at _ _ _ _ rfl] at this
        exact this
    · obtain ⟨i, hi, rfl⟩ := List.mem_map.1 hx
      exact (hfx i (by simpa using hi)).2
set_option maxRecDepth 100000 in
theorem el_ruleN {H : Type} {enc0 : TypeId × Value → H} {w : World} (fuel : Nat) (cs : List Value) (x : DataW H × List MemPlace) (h : DataW.trod enc0 Tryz.prog w 0 (fun _ => true) true fuel 69 cs = some x) :
    ∃ r : RuleR, cs = encRule r ∧ ((∃ d, RuleAt w d r) ∧ r.cond.tree.nodes ≤ Rows.uptoBulk x.1 ∧ r.key.tree.nodes ≤ Rows.uptoBulk x.1 ∧ r.val.tree.nodes ≤ Rows.uptoBulk x.1) := by
  obtain ⟨xs, n, _, rfl, hl, hlen, hf⟩ := DataW.trod_struct Tryz.underlying69 h
  match xs, hlen with
  | [y0, y1, y2, y3, y4, y5], _ =>
    have h0 := by simpa using hf 0 _ rfl
    have h1 := by simpa using hf 1 _ rfl
    have h2 := by simpa using hf 2 _ rfl
    have h3 := by simpa using hf 3 _ rfl
    have h4 := by simpa using hf 4 _ rfl
    have h5 := by simpa using hf 5 _ rfl
    rw [cells_rule] at hl
    obtain ⟨each, e0, _⟩ := DataW.trod_bool Tryz.underlying4 h0
    obtain ⟨wh, e1, _⟩ := DataW.trod_int Tryz.underlying3 h1
    obtain ⟨txt, e3, _, htx⟩ := DataW.trod_string Tryz.underlying9 h3
    try dsimp only at e0 e1 e3 h2 h4 h5
    rw [cells_bool1] at e0
    rw [cells_int] at e1
    rw [cells_txt] at e3
    rw [cells_expr] at h2 h4 h5
    obtain ⟨c, hc, hcn⟩ := el_expr (Rows.uptoBulk y2.1) n _ _ (Nat.le_refl _) h2
    obtain ⟨kx, hkx, hkn⟩ := el_expr (Rows.uptoBulk y4.1) n _ _ (Nat.le_refl _) h4
    obtain ⟨vx, hvx, hvn⟩ := el_expr (Rows.uptoBulk y5.1) n _ _ (Nat.le_refl _) h5
    obtain ⟨rc, qc, rfl⟩ := exR_of hc
    obtain ⟨rk, qk, rfl⟩ := exR_of hkx
    obtain ⟨rv, qv, rfl⟩ := exR_of hvx
    rw [qc] at hc
    rw [qk] at hkx
    rw [qv] at hvx
    have hbk : Rows.uptoBulk y2.1 ≤ Rows.uptoBulk (DataW.agg [y0.1, y1.1, y2.1, y3.1, y4.1, y5.1]) ∧ Rows.uptoBulk y4.1 ≤ Rows.uptoBulk (DataW.agg [y0.1, y1.1, y2.1, y3.1, y4.1, y5.1]) ∧ Rows.uptoBulk y5.1 ≤ Rows.uptoBulk (DataW.agg [y0.1, y1.1, y2.1, y3.1, y4.1, y5.1]) := by
      simp only [Rows.uptoBulk, Rows.uptoBulkAll]
      omega
    match cs, hl with
    | [c0, c1, c2, c3, c4, c5, c6, c7, c8, c9, c10, c11, c12, c13, c14], _ =>
      simp [ExR.cells, encX] at e0 e1 e3 qc qk qv
      refine ⟨⟨each, wh, rc, txt, rk, rv⟩, ?_, ⟨max (Rows.uptoBulk y2.1) (max (Rows.uptoBulk y4.1) (Rows.uptoBulk y5.1)), hc.more (by omega), hkx.more (by omega), hvx.more (by omega), htx⟩, Nat.le_trans hcn hbk.1, Nat.le_trans hkn hbk.2.1, Nat.le_trans hvn hbk.2.2⟩
      simp [encRule, e0, e1, e3, qc, qk, qv]
set_option maxRecDepth 100000 in
theorem open_jobN {H : Type} {enc0 : TypeId × Value → H} {w : World} {cs : Array Value} {d : DataW H} {ps : List MemPlace} (h : DataW.Trod enc0 Tryz.prog w 0 (fun _ => true) true 24 (.agg cs) d ps) :
    ∃ ro rc rs fold early slices, Value.agg cs = .agg #[.slice ro (List.length (α := RuleR) rs) rc, .int .i64 fold, .bool early, .int .i64 slices] ∧ JobIn w ro rc rs fold slices ∧ ∀ r ∈ rs, r.cond.tree.nodes ≤ Rows.uptoBulk d ∧ r.key.tree.nodes ≤ Rows.uptoBulk d ∧ r.val.tree.nodes ≤ Rows.uptoBulk d := by
  obtain ⟨fuel, hf⟩ := h
  obtain ⟨xs, n, _, hd, hl, hlen, hf⟩ := DataW.trod_struct Tryz.underlying24 hf
  match xs, hlen with
  | [y0, y1, y2, y3], _ =>
    have h0 := by simpa using hf 0 _ rfl
    have h1 := by simpa using hf 1 _ rfl
    have h2 := by simpa using hf 2 _ rfl
    have h3 := by simpa using hf 3 _ rfl
    rw [cells_job] at hl
    obtain ⟨fold, e1, _, w1⟩ := DataW.trod_int Tryz.underlying3 h1
    obtain ⟨early, e2, _⟩ := DataW.trod_bool Tryz.underlying4 h2
    obtain ⟨slices, e3, _, w3⟩ := DataW.trod_int Tryz.underlying3 h3
    try dsimp only at e1 e2 e3 h0
    rw [cells_rules] at h0
    rw [cells_int] at e1 e3
    rw [cells_bool1] at e2
    obtain ⟨ro, rc, rs, e0, k1, k2, k3, k4⟩ := open_slcB Tryz.underlying22 cells_rule (by decide) (ok := fun dx r => (∃ d, RuleAt w d r) ∧ r.cond.tree.nodes ≤ Rows.uptoBulk dx ∧ r.key.tree.nodes ≤ Rows.uptoBulk dx ∧ r.val.tree.nodes ≤ Rows.uptoBulk dx) el_ruleN h0
    have hc := slc_capJ Tryz.underlying22 (e0 ▸ h0)
    have b1 := bounds_i64 w1
    have b3 := bounds_i64 w3
    have hbk : Rows.uptoBulk y0.1 ≤ Rows.uptoBulk d := by
      have e : d = DataW.agg [y0.1, y1.1, y2.1, y3.1] := by simpa using (Prod.mk.inj hd).1
      rw [e]
      simp only [Rows.uptoBulk, Rows.uptoBulkAll]
      omega
    match cs, hl with
    | ⟨[c0, c1, c2, c3]⟩, _ =>
      simp [Value.cells] at e0 e1 e2 e3
      refine ⟨ro, rc, rs, fold, early, slices, by rw [e0, e1, e2, e3], ⟨k1, k2, k3, fun r hr => ?_, hc, by omega, by omega⟩, fun r hr => ?_⟩
      · obtain ⟨_, ⟨h, _⟩, _⟩ := k4 r hr
        exact h
      · obtain ⟨dy, ⟨_, h1, h2, h3⟩, h4⟩ := k4 r hr
        omega
end Go.Proofs.YtgeedjlbajmdkaaGreatDoor
