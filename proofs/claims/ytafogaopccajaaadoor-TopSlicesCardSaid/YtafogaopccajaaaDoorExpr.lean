/- Expressions as plain trees; how they lie in memory; from the form's reading to trees. -/
import Derived.Test.YtafogaopccajaaaDoorPairLaw
import Derived.Test.YtafogaopccajaaaDoorApp2
import Derived.Test.YtafogaopccajaaaDoorShelf
import Derived.Test.YtafogaopccajaaaDoorPairSum
import Derived.Test.YtafogaopccajaaaDoorOpen
import Derived.Test.YtafogaopccajaaaDoorRws
import Derived.Lib.SmallJoins
set_option linter.unusedSimpArgs false
set_option linter.unusedVariables false
/- A record's words: expr.Words and the reference; lists of texts. -/
namespace Go.Proofs.YtafogaopccajaaaDoor
open Go.RowKit

def encS (s : ByteArray) : List Value := [.string s]
theorem encS_len (s : ByteArray) : (encS s).length = 1 := rfl
theorem one_str : ∀ x, ∀ u ∈ encS x, u.oneCell' = true := fun x u h => by simp [encS] at h; subst h; rfl
theorem Sl.str {w : World} {ao : Option Addr} {l : List ByteArray} (h : Sl 1 encS w ao l) {k : Nat} (hk : k < l.length) :
    ∃ b off x, ao = some ⟨b, off, none⟩ ∧ b < w.heap.size ∧ l[k]? = some x ∧ w.cell? ⟨b, off + k, none⟩ = some (.string x) := by
  obtain ⟨b, off, e, hlt, hc⟩ := h (by omega)
  refine ⟨b, off, l[k], e, hlt, by simp [hk], ?_⟩
  have := hc k l[k] 0 _ (by simp [hk]) rfl
  simpa using this
theorem infoStr : (Tryd.prog.info? 9).map (fun i => (i.zero, i.size, i.bytes)) = some (some (.string ByteArray.empty), 1, 16) := by kernel_rfl
/-- the library's variable MaxLen holds some number -/
def GM (w : World) : Prop := ∃ m, w.cell? ⟨0, 0, none⟩ = some (.int .i64 m)
theorem GM.later {w w' : World} {B : Nat} (h : GM w) (hb : Below B w w') (hB : w.heap.size ≤ B) : GM w' := by
  obtain ⟨m, hm⟩ := h
  have hlt := World.block_lt_of_cell? w _ hm
  exact ⟨m, by rw [hb.cell (p := ⟨0, 0, none⟩) (Nat.lt_of_lt_of_le hlt hB)]; exact hm⟩
theorem countB_len (s sep : ByteArray) (h : 1 ≤ sep.size) : Lib.countB s sep + 1 = (Lib.splitB sep 0 (Lib.countB s sep) s).length := (Lib.splitB_all sep h 0 _ s rfl).symm
/-- strings.Split at one byte -/
theorem Split_one (c : UInt8) (s : ByteArray) (w : World) (hg : GM w) (hs : s.size ≤ 1000000) :
    Calls Tryd.prog 49 #[.string s, .string (tx [c])] w fun e w' => e = .returned (.slice (some ⟨w.heap.size, 0, none⟩) ((splitAt c s.data.toList).map tx).length ((splitAt c s.data.toList).map tx).length) ∧
      w' = w.alloc (.cells (((splitAt c s.data.toList).map tx).map Value.string).toArray 9) := by
  obtain ⟨m, hm⟩ := hg
  have h1 : 1 ≤ (tx [c]).size := by simp [tx_size]
  refine (Tryd.strings_Split s (tx [c]) m w (by omega) hm h1).mono ?_
  rintro e w' ⟨rfl, rfl⟩
  rw [countB_len _ _ h1, splitB_eq]
  exact ⟨rfl, rfl⟩
theorem news_cells (w : World) {cs : Array Value} (t : TypeId) {l : List Value} (h : cs.toList = l) : ∀ (j : Nat) (u : Value), l[j]? = some u → (w.alloc (.cells cs t)).cell? ((⟨w.heap.size, 0, none⟩ : Addr).add j) = some u := by
  intro j u hj
  rw [add_at _ _ _ _ rfl, Nat.zero_add]
  exact (Bk.new (w := w) (t := t) h).get hj
def wordsB (s : ByteArray) : List ByteArray := ((splitAt 32 s.data.toList).map tx).filter fun x => !x.toList.isEmpty
theorem wordsB_eq (s : ByteArray) : wordsB s = (wordsL s.data.toList).map tx := by
  unfold wordsB wordsL
  rw [List.filter_map]
  congr 1
  refine List.filter_congr fun x _ => ?_
  show (!(tx x).toList.isEmpty) = _
  rw [tl, tx_list]
theorem filter_take_succ {α : Type} {p : α → Bool} {l : List α} {k : Nat} {x : α} (h : l[k]? = some x) : (l.take (k + 1)).filter p = (l.take k).filter p ++ (if p x then [x] else []) := by
  obtain ⟨hlt, hx⟩ := List.getElem?_eq_some_iff.1 h
  rw [List.take_succ_eq_append_getElem hlt, hx, List.filter_append]
  by_cases hp : p x = true <;> simp [hp]
theorem tl_len (s : ByteArray) : s.data.toList.length = s.size := Array.length_toList
theorem flat_str (l : List ByteArray) : l.flatMap encS = l.map Value.string := by
  induction l with
  | nil => rfl
  | cons a l ih => rw [List.flatMap_cons, ih]; rfl
theorem splitAt_len (c : UInt8) (l : List UInt8) : (splitAt c l).length ≤ l.length + 1 := by
  induction l with
  | nil => simp [splitAt]
  | cons b l ih =>
    unfold splitAt
    split
    · simp; omega
    · split
      · rename_i h t e
        rw [e] at ih
        simp at ih ⊢; omega
      · simp
set_option maxHeartbeats 1000000 in
theorem Words_any (s : ByteArray) (w : World) (hg : GM w) (hs : s.size ≤ 1000000) :
    Calls Tryd.prog 63 #[.string s] w fun e w' => ∃ v, e = .returned v ∧ Own 1 encS 9 w' w.heap.size v (wordsB s) ∧ Below w.heap.size w w' := by
  obtain ⟨ip, hpi, hpz0, hpz1, hpz2⟩ := info_parts infoStr
  have HS := hide (Split_one 32 s w hg hs)
  have hlen : ((splitAt 32 s.data.toList).map tx).length ≤ 1000001 := by
    have := splitAt_len 32 s.data.toList
    rw [List.length_map]
    have e := tl_len s
    omega
  have HW : Hid (wordsB s = ((splitAt 32 s.data.toList).map tx).filter fun x => !x.toList.isEmpty) := rfl
  generalize (splitAt 32 s.data.toList).map tx = ps at *
  go_enter Tryd.func63, Tryd.ntmps63
  go_wp2_with fail
  refine HS.out.mono ?_
  rintro e w1 ⟨rfl, rfl⟩
  have hsl : Sl 1 encS (w.alloc (.cells (ps.map Value.string).toArray 9)) (some ⟨w.heap.size, 0, none⟩) ps := Sl.lit encS_len (heap_new _ _) (flat_str ps).symm
  have hb1 : Below w.heap.size w (w.alloc (.cells (ps.map Value.string).toArray 9)) := (Below.refl _ _).alloc (Nat.le_refl _) _
  have hlt1 : w.heap.size < (w.alloc (.cells (ps.map Value.string).toArray 9)).heap.size := by simp
  generalize w.alloc (.cells (ps.map Value.string).toArray 9) = w1 at *
  clear HS
  go_wp2
  go_loopw [3, 9] (fun v i wr => ∃ k : Nat, k ≤ ps.length ∧ i = .int .i64 k ∧ Own 1 encS 9 wr w1.heap.size v ((ps.take k).filter fun x => !x.toList.isEmpty) ∧ Below w1.heap.size w1 wr) (fun _ i _ => ps.length - (intOf i).toNat)
  case atStart => exact ⟨0, by omega, rfl, Own.nil, Below.refl _ _⟩
  case round =>
    obtain ⟨k, hk, rfl, hown, hbl⟩ := hrel
    by_cases hlt : k < ps.length
    · obtain ⟨b, off, x, e1, hbw, hlk, c0⟩ := (hsl.later hbl (Nat.le_refl _)).str hlt
      cases e1
      rw [Nat.zero_add] at c0
      have hfl : ((ps.take k).filter fun x => !x.toList.isEmpty).length ≤ k := by
        have := List.length_filter_le (fun x : ByteArray => !x.toList.isEmpty) (ps.take k)
        rw [List.length_take] at this; omega
      have HT := hide (filter_take_succ (p := fun x : ByteArray => !x.toList.isEmpty) hlk)
      clear hlk
      generalize (ps.take k).filter (fun x => !x.toList.isEmpty) = acc at *
      have f1 : (0 : Int) ≤ (k : Int) ∧ (k : Int) < (ps.length : Int) := by omega
      obtain ⟨f1, f2⟩ := f1
      cases hx : x.toList.isEmpty
      · have HT2 : Hid ((ps.take (k + 1)).filter (fun x => !x.toList.isEmpty) = acc ++ [x]) := by show _ = _; rw [HT.out, hx]; rfl
        have hx2 : (!x.toList.isEmpty) = true := by rw [hx]; rfl
        clear HT hx
        go_wp2_with (at_builtin; refine wpList_append_one encS_len _ _ 40 ip _ rfl rfl Tryd.underlying40 hpi hpz0 hpz1 hpz2 rfl (by decide) (by decide) (hown.alloc _) (hbl.alloc hbl.size _) ?c1 ?c2 rfl x ⟨wr.heap.size, 0, none⟩ 1 rfl ?c3 ?c4 ?_)
        case c1 => have := hbl.size; simp; omega
        case c2 => omega
        case c3 => exact news_cells wr _ rfl
        case c4 => exact one_str x
        intro v' w2 ho hb _ _
        go_wp2
        go_roundw
        case rel => exact ⟨k + 1, by omega, by go_num, by rw [HT2.out]; exact ho, hb⟩
        case measure => simp [intOf]; omega
      · have HT2 : Hid ((ps.take (k + 1)).filter (fun x => !x.toList.isEmpty) = acc) := by show _ = _; rw [HT.out, hx]; simp
        have hx3 : x.toList = [] := by simpa using hx
        clear HT hx
        go_wp2
        go_roundw
        case rel => exact ⟨k + 1, by omega, by go_num, by rw [HT2.out]; exact hown, hbl⟩
        case measure => simp [intOf]; omega
    · obtain rfl : k = ps.length := by omega
      rw [List.take_length] at hown
      go_wp2
      go_ret
      exact ⟨_, rfl, by rw [HW.out]; exact hown.base_le (by omega), hb1.trans (hbl.mono (by omega))⟩
end Go.Proofs.YtafogaopccajaaaDoor
namespace Go.Proofs.YtafogaopccajaaaDoor
open Go.RowKit Go.ChangeShapes Go.WideShapes Go.ChangeAt

inductive ExprV where
  | mk (k n : Int) (s : ByteArray) (a : List ExprV)
instance : Inhabited ExprV := ⟨.mk 0 0 ByteArray.empty []⟩
mutual
/-- so many expressions are in it -/
def ExprV.nodes : ExprV → Nat
  | .mk _ _ _ a => 1 + ExprV.nodesL a
def ExprV.nodesL : List ExprV → Nat
  | [] => 0
  | x :: l => ExprV.nodes x + ExprV.nodesL l
end
mutual
def ExprV.deep : ExprV → Nat
  | .mk _ _ _ a => ExprV.deepL a + 1
def ExprV.deepL : List ExprV → Nat
  | [] => 0
  | x :: l => max (ExprV.deep x) (ExprV.deepL l)
end
/-- the four places of one -/
def encX (k n : Int) (s : ByteArray) (ao : Option Addr) (len cap : Nat) : List Value := [.int .i64 k, .int .i64 n, .string s, .slice ao len cap]
def KidsAt (E : ExprV → List Value → Prop) (w : World) (ao : Option Addr) (a : List ExprV) : Prop :=
  ∀ (i : Nat) x, a[i]? = some x → ∃ b off q, ao = some ⟨b, off, none⟩ ∧ b < w.heap.size ∧ (∀ (j : Nat) u, q[j]? = some u → w.cell? ⟨b, off + i * 4 + j, none⟩ = some u) ∧ E x q
/-- a tree of at most so many floors lies in these places -/
def ExAt (w : World) : Nat → ExprV → List Value → Prop
  | 0, _, _ => False
  | d + 1, .mk k n s a, cs => ∃ ao cap, cs = encX k n s ao a.length cap ∧ (-9223372036854775808 ≤ k ∧ k ≤ 9223372036854775807) ∧ (-9223372036854775808 ≤ n ∧ n ≤ 9223372036854775807) ∧ s.size ≤ maxLen ∧ a.length ≤ maxLen ∧ KidsAt (ExAt w d) w ao a
theorem KidsAt.mono {E E' : ExprV → List Value → Prop} {w w' : World} {ao : Option Addr} {a : List ExprV} (h : KidsAt E w ao a) (hE : ∀ x q, E x q → E' x q) {B : Nat} (hb : Below B w w') (hB : w.heap.size ≤ B) : KidsAt E' w' ao a := by
  intro i x hi
  obtain ⟨b, off, q, e, hlt, hc, hq⟩ := h i x hi
  refine ⟨b, off, q, e, by have := hb.size; omega, fun j u hj => ?_, hE _ _ hq⟩
  rw [hb.cell (p := ⟨b, off + i * 4 + j, none⟩) (by show b < B; omega)]; exact hc j u hj
theorem ExAt.later {w w' : World} {B : Nat} (hb : Below B w w') (hB : w.heap.size ≤ B) : ∀ {d : Nat} {e : ExprV} {cs : List Value}, ExAt w d e cs → ExAt w' d e cs
  | 0, _, _, h => h
  | d + 1, .mk k n s a, cs, h => by
    obtain ⟨ao, cap, e, h1, h2, h3, h4, h5⟩ := h
    exact ⟨ao, cap, e, h1, h2, h3, h4, h5.mono (fun x q hq => ExAt.later hb hB hq) hb hB⟩
/-- a child -/
theorem KidsAt.kid {w : World} {d : Nat} {ao : Option Addr} {a : List ExprV} (h : KidsAt (ExAt w d) w ao a) {i : Nat} (hi : i < a.length) :
    ∃ b off d' k n s l ao' cap', ao = some ⟨b, off, none⟩ ∧ b < w.heap.size ∧ d = d' + 1 ∧ a[i]? = some (.mk k n s l) ∧ ExAt w d (.mk k n s l) (encX k n s ao' l.length cap') ∧
      w.cell? ⟨b, off + i * 4, none⟩ = some (.int .i64 k) ∧ w.cell? ⟨b, off + i * 4 + 1, none⟩ = some (.int .i64 n) ∧ w.cell? ⟨b, off + i * 4 + 2, none⟩ = some (.string s) ∧ w.cell? ⟨b, off + i * 4 + 3, none⟩ = some (.slice ao' l.length cap') := by
  obtain ⟨b, off, q, e, hlt, hc, hq⟩ := h i _ (List.getElem?_eq_getElem hi)
  obtain ⟨x, hx⟩ : ∃ x, a[i] = x := ⟨_, rfl⟩
  rw [hx] at hq
  cases d with
  | zero => exact hq.elim
  | succ d' =>
    obtain ⟨k, n, s, l⟩ := x
    have hq' := hq
    obtain ⟨ao', cap', rfl, _⟩ := hq
    exact ⟨b, off, d', k, n, s, l, ao', cap', e, hlt, rfl, by rw [List.getElem?_eq_getElem hi, hx], hq', hc 0 _ rfl, hc 1 _ rfl, hc 2 _ rfl, hc 3 _ rfl⟩
theorem cells_expr : Tryd.prog.cellsOf 36 = 4 := by kernel_rfl
theorem cells_exprs : Tryd.prog.cellsOf 34 = 1 := by kernel_rfl
theorem cells_txt : Tryd.prog.cellsOf 9 = 1 := by kernel_rfl
theorem bulk_one {H : Type} (d : DataW H) : 1 ≤ Rows.uptoBulk d := by
  cases d with
  | lit l => cases l <;> simp [Rows.uptoBulk]
  | nil => simp [Rows.uptoBulk]
  | ptr d => simp [Rows.uptoBulk]
  | slice elems spare => simp [Rows.uptoBulk]
  | agg parts => simp [Rows.uptoBulk]
  | iface t d => simp [Rows.uptoBulk]
  | map entries => simp [Rows.uptoBulk]
  | held h => simp [Rows.uptoBulk]
theorem bulk_range {H : Type} (f : Nat → Nat) (D : Nat → DataW H) : ∀ (n : Nat), (∀ i, i < n → f i ≤ Rows.uptoBulk (D i)) → ((List.range n).map f).sum ≤ Rows.uptoBulkAll ((List.range n).map D) := by
  intro n
  have app : ∀ l r : List (DataW H), Rows.uptoBulkAll (l ++ r) = Rows.uptoBulkAll l + Rows.uptoBulkAll r := by
    intro l r
    induction l with
    | nil => simp [Rows.uptoBulkAll]
    | cons x l ih => simp only [List.cons_append, Rows.uptoBulkAll, ih]; omega
  induction n with
  | zero => intro _; simp
  | succ n ih =>
    intro h
    rw [List.range_succ, List.map_append, List.map_append, app, List.sum_append]
    have h1 := ih fun i hi => h i (by omega)
    have h2 := h n (by omega)
    simp [Rows.uptoBulkAll]
    omega
theorem bulk_mem {H : Type} (D : Nat → DataW H) {n i : Nat} (hi : i < n) : Rows.uptoBulk (D i) ≤ Rows.uptoBulkAll ((List.range n).map D) := by
  have h : ∀ (l : List (DataW H)) d, d ∈ l → Rows.uptoBulk d ≤ Rows.uptoBulkAll l := by
    intro l d hd
    induction l with
    | nil => cases hd
    | cons x r ih =>
      simp only [Rows.uptoBulkAll]
      cases List.mem_cons.1 hd with
      | inl e => subst e; omega
      | inr e => have := ih e; omega
  exact h _ _ (List.mem_map.2 ⟨i, List.mem_range.2 hi, rfl⟩)
theorem nodesL_sum : ∀ l : List ExprV, ExprV.nodesL l = (l.map ExprV.nodes).sum
  | [] => rfl
  | x :: l => by rw [ExprV.nodesL, nodesL_sum l]; simp
set_option maxRecDepth 100000 in
theorem el_expr {H : Type} {enc0 : TypeId × Value → H} {w : World} : ∀ (N fuel : Nat) (cs : List Value) (x : DataW H × List MemPlace), Rows.uptoBulk x.1 ≤ N → DataW.trod enc0 Tryd.prog w 0 (fun _ => true) true fuel 36 cs = some x →
    ∃ e : ExprV, ExAt w N e cs ∧ e.nodes ≤ Rows.uptoBulk x.1
  | 0, fuel, cs, x, hN, h => absurd (bulk_one x.1) (by omega)
  | N + 1, fuel, cs, x, hN, h => by
    obtain ⟨xs, n, _, rfl, hl, hlen, hf⟩ := DataW.trod_struct Tryd.underlying36 h
    match xs, hlen with
    | [y0, y1, y2, y3], _ =>
      have h0 := by simpa using hf 0 _ rfl
      have h1 := by simpa using hf 1 _ rfl
      have h2 := by simpa using hf 2 _ rfl
      have h3 := by simpa using hf 3 _ rfl
      obtain ⟨v0, e0, _, b0⟩ := DataW.trod_int Tryd.underlying3 h0
      obtain ⟨v1, e1, _, b1⟩ := DataW.trod_int Tryd.underlying3 h1
      obtain ⟨v2, e2, _, b2⟩ := DataW.trod_string Tryd.underlying9 h2
      rw [cells_expr] at hl
      try dsimp only at e0 e1 e2 h3
      rw [cells_int] at e0 e1
      rw [cells_txt] at e2
      rw [cells_exprs] at h3
      have hbk : Rows.uptoBulk y3.1 + 4 ≤ Rows.uptoBulk (DataW.agg [y0.1, y1.1, y2.1, y3.1]) := by
        have q0 := bulk_one y0.1
        have q1 := bulk_one y1.1
        have q2 := bulk_one y2.1
        simp only [Rows.uptoBulk, Rows.uptoBulkAll]
        omega
      have hN' : Rows.uptoBulk (DataW.agg [y0.1, y1.1, y2.1, y3.1]) ≤ N + 1 := hN
      match cs, hl with
      | [c0, c1, c2, c3], _ =>
        simp at e0 e1 e2
        have h3' : DataW.trod enc0 Tryd.prog w 0 (fun _ => true) true n 34 [c3] = some y3 := by simpa using h3
        have w0 := bounds_i64 b0
        have w1 := bounds_i64 b1
        rcases Deep.open_slice Tryd.underlying34 h3' with ⟨hc3, hy3⟩ | ⟨a', len', cap', m, n', D, Pl, hc3, _, hl', hm, hmm, hy3, hall⟩
        · obtain rfl : c3 = .slice none 0 0 := by simpa using hc3
          refine ⟨.mk v0 v1 v2 [], ⟨none, 0, by rw [e0, e1, e2]; rfl, by omega, by omega, b2, by simp, fun i x hi => (by simp at hi)⟩, ?_⟩
          show ExprV.nodes _ ≤ Rows.uptoBulk (DataW.agg [y0.1, y1.1, y2.1, y3.1])
          simp only [ExprV.nodes, ExprV.nodesL]
          omega
        · obtain rfl : c3 = .slice (some a') len' cap' := by simpa using hc3
          subst hy3
          have hel : Rows.uptoBulkAll ((List.range len').map D) + 5 ≤ Rows.uptoBulk (DataW.agg [y0.1, y1.1, y2.1, (DataW.slice ((List.range len').map D) ((List.range (m - len')).map fun j => D (len' + j)) : DataW H)]) := by
            have h2 : Rows.uptoBulkAll ((List.range len').map D) + 1 ≤ Rows.uptoBulk (DataW.slice ((List.range len').map D) ((List.range (m - len')).map fun j => D (len' + j)) : DataW H) := by
              simp only [Rows.uptoBulk]; omega
            have := hbk
            dsimp only at this
            omega
          have hm' : len' ≤ m := by rw [hmm]; split <;> omega
          obtain ⟨f, hfx⟩ := Deep.choose_lt (n := len') (p := fun i (z : ExprV) => ∃ q, w.cells? 0 (a'.add (i * 4)) 4 = some q ∧ ExAt w N z q ∧ z.nodes ≤ Rows.uptoBulk (D i)) (fun i hi => by
            obtain ⟨q, g1, g2⟩ := hall i (by omega)
            have hb := bulk_mem D hi
            obtain ⟨z, hz, hzn⟩ := el_expr N _ _ _ (by show Rows.uptoBulk (D i) ≤ N; dsimp only at hN'; omega) g2
            rw [cells_expr] at g1
            exact ⟨z, q, g1, hz, hzn⟩)
          refine ⟨.mk v0 v1 v2 ((List.range len').map f), ⟨some a', cap', by rw [e0, e1, e2]; simp [encX], by omega, by omega, b2, by simp; omega, ?_⟩, ?_⟩
          · intro i x hi
            have hi' : i < len' := by
              have := (List.getElem?_eq_some_iff.1 hi).1
              simpa using this
            have hx : f i = x := by
              rw [List.getElem?_map, List.getElem?_range hi'] at hi
              simpa using hi
            subst hx
            obtain ⟨q, g1, g2, _⟩ := hfx i hi'
            obtain ⟨hq4, hqc⟩ := cells_cell g1
            obtain ⟨b, off, sp⟩ := a'
            have hq0 : q[0]? = some q[0] := List.getElem?_eq_getElem (by omega)
            have hsp : sp = none := by
              obtain ⟨q', g1', _, _⟩ := hfx 0 (by omega)
              obtain ⟨hq4', hqc'⟩ := cells_cell g1'
              have := World.cell?_spot (hqc' 0 _ (List.getElem?_eq_getElem (by omega)))
              simpa [Addr.add] using this
            subst hsp
            refine ⟨b, off, q, rfl, ?_, fun j u hj => ?_, g2⟩
            · have := World.block_lt_of_cell? w _ (hqc 0 _ hq0)
              rw [add_at _ _ _ _ rfl, add_at _ _ _ _ rfl] at this
              exact this
            · have := hqc j u hj
              rw [add_at _ _ _ _ rfl, add_at _ _ _ _ rfl] at this
              exact this
          · show ExprV.nodes _ ≤ Rows.uptoBulk (DataW.agg [y0.1, y1.1, y2.1, (DataW.slice ((List.range len').map D) ((List.range (m - len')).map fun j => D (len' + j)) : DataW H)])
            have hs : ExprV.nodesL ((List.range len').map f) ≤ Rows.uptoBulkAll ((List.range len').map D) := by
              rw [nodesL_sum, List.map_map]
              exact bulk_range _ D len' fun i hi => by obtain ⟨_, _, _, h⟩ := hfx i hi; exact h
            simp only [ExprV.nodes]
            omega
end Go.Proofs.YtafogaopccajaaaDoor
