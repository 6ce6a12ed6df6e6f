/- Jobs: what job.Check says of a rule. -/
import Derived.Test.YtgeedjlbajmdkaaGreatDoorExpr11
import Derived.Test.YtgeedjlbajmdkaaGreatDoorSort
import Derived.Test.YtgeedjlbajmdkaaGreatDoorPairSum
import Derived.Test.YtgeedjlbajmdkaaGreatDoorExpr8
import Derived.Test.YtgeedjlbajmdkaaGreatDoorFolder2
import Derived.Test.YtgeedjlbajmdkaaGreatDoorTexts
import Derived.Test.YtgeedjlbajmdkaaGreatDoorExpr6
import Derived.Test.YtgeedjlbajmdkaaGreatDoorPair2
set_option linter.unusedSimpArgs false
set_option linter.unusedVariables false
/- Expressions: the closed fact of the law. -/
namespace Go.Proofs.YtgeedjlbajmdkaaGreatDoor
open Go.RowKit Go.ChangeShapes Go.WideShapes Go.ChangeAt

theorem ExAt_leaf (w : World) (k n : Int) (s : ByteArray) (hk : -1000 ≤ k ∧ k ≤ 1000) (hn : -1000 ≤ n ∧ n ≤ 1000) (hs : s.size ≤ 1000) : ExAt w 1 (.mk k n s []) (encX k n s none ([] : List ExprV).length 0) :=
  ⟨none, 0, rfl, by omega, by omega, by unfold maxLen; omega, by unfold maxLen; simp, fun i x h => by simp at h⟩
end Go.Proofs.YtgeedjlbajmdkaaGreatDoor
/- An expression that comes in as an argument. -/
namespace Go.Proofs.YtgeedjlbajmdkaaGreatDoor
open Go.RowKit Go.ChangeShapes Go.WideShapes Go.ChangeAt

theorem ExAt_pos {w : World} {N : Nat} {k n : Int} {s : ByteArray} {a : List ExprV} {cs : List Value} (h : ExAt w N (.mk k n s a) cs) : ∃ ao cap, cs = encX k n s ao a.length cap := by
  cases N with
  | zero => exact h.elim
  | succ N => obtain ⟨ao, cap, e, _⟩ := h; exact ⟨ao, cap, e⟩
theorem open_expr {H : Type} {enc0 : TypeId × Value → H} {w : World} {cs : Array Value} {d : DataW H} {ps : List MemPlace} (h : DataW.Trod enc0 Tryz.prog w 0 (fun _ => true) true 67 (.agg cs) d ps) :
    ∃ k n s a ao cap, Value.agg cs = .agg #[.int .i64 k, .int .i64 n, .string s, .slice ao a.length cap] ∧ ExAt w (Rows.uptoBulk d) (.mk k n s a) (encX k n s ao a.length cap) ∧ (ExprV.mk k n s a).nodes ≤ Rows.uptoBulk d := by
  obtain ⟨fuel, hf⟩ := h
  obtain ⟨e, he, hn⟩ := el_expr (Rows.uptoBulk d) fuel _ _ (Nat.le_refl _) hf
  obtain ⟨k, n, s, a⟩ := e
  obtain ⟨ao, cap, hcs⟩ := ExAt_pos he
  rw [hcs] at he
  have h2 : cs.toList = encX k n s ao a.length cap := by simpa [Value.cells] using hcs
  have h3 : cs = (encX k n s ao a.length cap).toArray := by rw [← h2]
  exact ⟨k, n, s, a, ao, cap, by rw [h3]; rfl, he, hn⟩
end Go.Proofs.YtgeedjlbajmdkaaGreatDoor
/- Slices of pairs: those of a key lie in one; sorting and folding go by slices. -/
namespace Go.Proofs.YtgeedjlbajmdkaaGreatDoor
open Go.RowKit

/-- a test of the key alone -/
def ByKey (p : Pr → Bool) : Prop := ∀ a b : Pr, a.1 = b.1 → p a = p b
theorem filter_isK {p : Pr → Bool} (hp : ByKey p) (l : List Pr) (k : List UInt8) : (l.filter p).filter (isK k) = (l.filter (isK k)).filter p := by
  rw [List.filter_filter, List.filter_filter]
  congr 1
  funext a
  exact Bool.and_comm _ _
theorem srt_filter {p : Pr → Bool} (hp : ByKey p) (l : List Pr) : (srt l).filter p = srt (l.filter p) := by
  refine srt_of ((srt_rise l).sub List.filter_sublist) fun k => ?_
  rw [filter_isK hp, filter_isK hp, srt_same l k]
theorem insG_filter {p : Pr → Bool} (hp : ByKey p) {k : Int} {x : Pr} : ∀ (l : List Pr), Incr l → (insG k x l).filter p = if p x = true then insG k x (l.filter p) else l.filter p
  | [], _ => by
    rw [insG_nil]
    by_cases h : p x = true
    · rw [if_pos h, List.filter_cons_of_pos h, List.filter_nil, insG_nil]
    · rw [if_neg h, List.filter_cons_of_neg h]
  | a :: l, hi => by
    have ih := insG_filter hp (k := k) (x := x) l hi.tail
    rcases klt_or (a := a) (b := x) with e | e | e
    · rw [insG_lt e]
      by_cases ha : p a = true
      · rw [List.filter_cons_of_pos ha, List.filter_cons_of_pos ha, ih]
        by_cases hx : p x = true
        · rw [if_pos hx, if_pos hx, insG_lt e]
        · rw [if_neg hx, if_neg hx]
      · rw [List.filter_cons_of_neg ha, List.filter_cons_of_neg ha, ih]
    · have hpp := hp a x e
      have h2 : p (a.1, two k a.2 x.2) = p x := hp _ _ e
      rw [insG_eq e]
      by_cases hx : p x = true
      · rw [if_pos hx, List.filter_cons_of_pos (by rw [h2]; exact hx), List.filter_cons_of_pos (by rw [hpp]; exact hx), insG_eq e]
      · rw [if_neg hx, List.filter_cons_of_neg (by rw [h2]; exact hx), List.filter_cons_of_neg (by rw [hpp]; exact hx)]
    · rw [insG_gt e]
      by_cases hx : p x = true
      · rw [if_pos hx, List.filter_cons_of_pos hx]
        have hlt : ∀ b ∈ (a :: l).filter p, klt x b = true := by
          intro b hb
          rcases List.mem_cons.1 (List.mem_filter.1 hb).1 with h | h
          · rw [h]; exact e
          · exact klt_trans e (hi.head b h)
        generalize (a :: l).filter p = m at *
        rcases m with _ | ⟨b, m⟩
        · rw [insG_nil]
        · rw [insG_gt (hlt b List.mem_cons_self)]
      · rw [if_neg hx, List.filter_cons_of_neg hx]
theorem sumG_filter {p : Pr → Bool} (hp : ByKey p) {k : Int} : ∀ (l o : List Pr), Incr o → (sumG k o l).filter p = sumG k (o.filter p) (l.filter p)
  | [], _, _ => rfl
  | x :: l, o, ho => by
    show (sumG k (insG k x o) l).filter p = _
    rw [sumG_filter hp l _ (insG_incr ho), insG_filter hp o ho]
    by_cases hx : p x = true
    · rw [if_pos hx, List.filter_cons_of_pos hx]; rfl
    · rw [if_neg hx, List.filter_cons_of_neg hx]
theorem grp_filter {p : Pr → Bool} (hp : ByKey p) (k : Int) (l : List Pr) : (grp k l).filter p = grp k (l.filter p) := by
  rw [grp_eq, grp_eq, sumG_filter hp l [] List.Pairwise.nil]
  rfl
theorem grp_grp (k : Int) (l : List Pr) : grp k (grp k l) = grp k l := by
  have := grp_part k l []
  rwa [List.append_nil, List.append_nil] at this
/-- those of slice n, of so many -/
def inSlice (many : Int) (n : Nat) (p : Pr) : Bool := decide (sliceB p.1 many = n)
theorem inSlice_key (many : Int) (n : Nat) : ByKey (inSlice many n) := fun a b h => by unfold inSlice; rw [h]
/-- a job's slices of pairs -/
def cutP (fold : Int) (early : Bool) (many : Nat) (l : List Pr) : List (List Pr) :=
  (List.range many).map fun n => if early = true then groups fold ((srt l).filter (inSlice many n)) else (srt l).filter (inSlice many n)
theorem cutP_get {fold : Int} {early : Bool} {many n : Nat} {l : List Pr} (h : n < many) : (cutP fold early many l)[n]? = some (if early = true then grp fold (l.filter (inSlice many n)) else srt (l.filter (inSlice many n))) := by
  unfold cutP
  rw [List.getElem?_map, List.getElem?_range h]
  simp only [Option.map_some, srt_filter (inSlice_key _ _)]
  rfl
end Go.Proofs.YtgeedjlbajmdkaaGreatDoor
/- What a job makes of a record: the pairs of its rules. -/
namespace Go.Proofs.YtgeedjlbajmdkaaGreatDoor
open Go.RowKit

/-- a rule: of each record or of each word, if that is so, a pair -/
structure RuleV where
  each : Bool
  when_ : Int
  cond : ExprV
  txt : ByteArray
  key : ExprV
  val : ExprV
def cut20 (k : ByteArray) : ByteArray := k.extract 0 (min k.size 20)
/-- is it so? -/
def ifR (r : RuleV) (line it : ByteArray) (ws : List ByteArray) : Bool := r.when_ == 0 || (decide (strE r.cond line it ws = r.txt) == decide (r.when_ = 1))
def pairR (r : RuleV) (kind : Int) (line it : ByteArray) (ws : List ByteArray) : Pr := (cut20 (strE r.key line it ws), first kind (intE r.val line it ws))
def madeR (r : RuleV) (kind : Int) (line : ByteArray) (ws : List ByteArray) (it : ByteArray) : Option Pr := if ifR r line it ws = true then some (pairR r kind line it ws) else none
def itsR (r : RuleV) (ws : List ByteArray) : List ByteArray := if r.each = true then ws else [⟨#[]⟩]
/-- what a rule makes -/
def pairsR (r : RuleV) (kind : Int) (line : ByteArray) : List Pr := (itsR r (wordsB line)).filterMap (madeR r kind line (wordsB line))
/-- what a job makes -/
def pairsJ (rs : List RuleV) (kind : Int) (line : ByteArray) : List Pr := rs.flatMap fun r => pairsR r kind line
theorem pairsJ_succ {rs : List RuleV} {i : Nat} {r : RuleV} (kind : Int) (line : ByteArray) (h : rs[i]? = some r) : pairsJ (rs.take (i + 1)) kind line = pairsJ (rs.take i) kind line ++ pairsR r kind line := by
  obtain ⟨hlt, hx⟩ := List.getElem?_eq_some_iff.1 h
  unfold pairsJ
  rw [List.take_succ_eq_append_getElem hlt, hx, List.flatMap_append]
  simp
theorem pairsJ_one (r : RuleV) (kind : Int) (line : ByteArray) : pairsJ [r] kind line = pairsR r kind line := by simp [pairsJ]
theorem itsR_len (r : RuleV) (ws : List ByteArray) : (itsR r ws).length ≤ ws.length + 1 := by
  unfold itsR
  split
  · omega
  · simp
theorem pairsR_len (r : RuleV) (kind : Int) (line : ByteArray) : (pairsR r kind line).length ≤ (wordsB line).length + 1 :=
  Nat.le_trans (List.length_filterMap_le _ _) (itsR_len r _)
theorem filterMap_parts {α β : Type} {f g h : α → Option β} (hp : ∀ x, (f x = h x ∧ g x = none) ∨ (f x = none ∧ g x = h x)) : ∀ (l : List α), (l.filterMap f ++ l.filterMap g).Perm (l.filterMap h)
  | [] => List.Perm.refl _
  | x :: l => by
    have ih := filterMap_parts hp l
    rcases hp x with ⟨h1, h2⟩ | ⟨h1, h2⟩
    · rw [List.filterMap_cons_none h2]
      cases hx : h x with
      | none => rw [hx] at h1; rw [List.filterMap_cons_none h1, List.filterMap_cons_none hx]; exact ih
      | some y => rw [hx] at h1; rw [List.filterMap_cons_some h1, List.filterMap_cons_some hx]; exact List.Perm.cons _ ih
    · rw [List.filterMap_cons_none h1]
      cases hx : h x with
      | none => rw [hx] at h2; rw [List.filterMap_cons_none h2, List.filterMap_cons_none hx]; exact ih
      | some y =>
        rw [hx] at h2
        rw [List.filterMap_cons_some h2, List.filterMap_cons_some hx]
        exact List.perm_middle.trans (List.Perm.cons _ ih)
/-- always is: if it is so, and if it is not -/
theorem when_parts (e : Bool) (c c2 : ExprV) (t t2 : ByteArray) (k v : ExprV) (kind : Int) (line : ByteArray) :
    (pairsR ⟨e, 1, c, t, k, v⟩ kind line ++ pairsR ⟨e, 2, c, t, k, v⟩ kind line).Perm (pairsR ⟨e, 0, c2, t2, k, v⟩ kind line) := by
  unfold pairsR
  refine filterMap_parts (fun x => ?_) _
  unfold madeR ifR
  by_cases h : strE c line x (wordsB line) = t
  · left; simp [h, pairR]
  · right; simp [h, pairR]
def leB (a b : ByteArray) : Prop := Op.bytesLess b.toList a.toList = false
theorem leB_anti {a b : ByteArray} (h : leB a b) (h2 : leB b a) : a = b := by
  rcases bl_tri a.toList b.toList with e | e | e
  · unfold leB at h2; rw [e] at h2; cases h2
  · exact tl_inj e
  · unfold leB at h; rw [e] at h; cases h
theorem sorted_unique : ∀ {l m : List ByteArray}, l.Pairwise leB → m.Pairwise leB → l.Perm m → l = m
  | [], m, _, _, h => (List.nil_perm.1 h).symm
  | a :: l, m, h1, h2, h => by
    rcases m with _ | ⟨b, m⟩
    · exact absurd h.length_eq (by simp)
    · have hab : a = b := by
        have ha : a ∈ b :: m := h.subset List.mem_cons_self
        have hb : b ∈ a :: l := h.symm.subset List.mem_cons_self
        rcases List.mem_cons.1 ha with e | e
        · exact e
        · rcases List.mem_cons.1 hb with e2 | e2
          · exact e2.symm
          · exact leB_anti ((List.pairwise_cons.1 h1).1 b e2) ((List.pairwise_cons.1 h2).1 a e)
      subst hab
      rw [sorted_unique (List.pairwise_cons.1 h1).2 (List.pairwise_cons.1 h2).2 (List.perm_cons a |>.1 h)]
theorem srt_keys {l m : List Pr} (h : l.Perm m) : (srt l).map (·.1) = (srt m).map (·.1) := by
  have key : ∀ l : List Pr, ((srt l).map (·.1)).Pairwise leB := fun l => by
    rw [List.pairwise_map]
    exact (srt_rise l).imp fun h => h
  exact sorted_unique (key l) (key m) ((((srt_perm l).trans h).trans (srt_perm m).symm).map _)
end Go.Proofs.YtgeedjlbajmdkaaGreatDoor
/- Jobs: how a job and its rules lie; what comes in. -/
namespace Go.Proofs.YtgeedjlbajmdkaaGreatDoor
open Go.RowKit Go.ChangeShapes Go.WideShapes Go.ChangeAt

/-- an expression as it lies -/
structure ExR where
  k : Int
  n : Int
  s : ByteArray
  ao : Option Addr
  cap : Nat
  a : List ExprV
def ExR.tree (e : ExR) : ExprV := .mk e.k e.n e.s e.a
def ExR.cells (e : ExR) : List Value := encX e.k e.n e.s e.ao e.a.length e.cap
def ExR.agg (e : ExR) : Value := .agg #[.int .i64 e.k, .int .i64 e.n, .string e.s, .slice e.ao e.a.length e.cap]
/-- a rule as it lies -/
structure RuleR where
  each : Bool
  when_ : Int
  cond : ExR
  txt : ByteArray
  key : ExR
  val : ExR
instance : Inhabited ExR := ⟨⟨0, 0, ⟨#[]⟩, none, 0, []⟩⟩
instance : Inhabited RuleR := ⟨⟨false, 0, default, ⟨#[]⟩, default, default⟩⟩
def RuleR.v (r : RuleR) : RuleV := ⟨r.each, r.when_, r.cond.tree, r.txt, r.key.tree, r.val.tree⟩
def encRule (r : RuleR) : List Value := [.bool r.each, .int .i64 r.when_, .int .i64 r.cond.k, .int .i64 r.cond.n, .string r.cond.s, .slice r.cond.ao r.cond.a.length r.cond.cap, .string r.txt,
  .int .i64 r.key.k, .int .i64 r.key.n, .string r.key.s, .slice r.key.ao r.key.a.length r.key.cap, .int .i64 r.val.k, .int .i64 r.val.n, .string r.val.s, .slice r.val.ao r.val.a.length r.val.cap]
theorem encRule_len (r : RuleR) : (encRule r).length = 15 := rfl
def RuleR.agg (r : RuleR) : Value := .agg #[.bool r.each, .int .i64 r.when_, .int .i64 r.cond.k, .int .i64 r.cond.n, .string r.cond.s, .slice r.cond.ao r.cond.a.length r.cond.cap, .string r.txt,
  .int .i64 r.key.k, .int .i64 r.key.n, .string r.key.s, .slice r.key.ao r.key.a.length r.key.cap, .int .i64 r.val.k, .int .i64 r.val.n, .string r.val.s, .slice r.val.ao r.val.a.length r.val.cap]
/-- a rule that can be read -/
structure RuleAt (w : World) (d : Nat) (r : RuleR) : Prop where
  cond : ExAt w d r.cond.tree r.cond.cells
  key : ExAt w d r.key.tree r.key.cells
  val : ExAt w d r.val.tree r.val.cells
  txt : r.txt.size ≤ maxLen
theorem RuleAt.later {w w' : World} {d : Nat} {r : RuleR} {B : Nat} (h : RuleAt w d r) (hb : Below B w w') (hB : w.heap.size ≤ B) : RuleAt w' d r :=
  ⟨h.cond.later hb hB, h.key.later hb hB, h.val.later hb hB, h.txt⟩
theorem ExAt.more {w : World} : ∀ {d d' : Nat} {e : ExprV} {cs : List Value}, ExAt w d e cs → d ≤ d' → ExAt w d' e cs
  | 0, _, _, _, h, _ => h.elim
  | _ + 1, 0, _, _, _, hd => absurd hd (by omega)
  | d + 1, d' + 1, .mk k n s a, cs, h, hd => by
    obtain ⟨ao, cap, e, h1, h2, h3, h4, h5⟩ := h
    refine ⟨ao, cap, e, h1, h2, h3, h4, fun i x hi => ?_⟩
    obtain ⟨b, off, q, e1, hlt, hc, hq⟩ := h5 i x hi
    exact ⟨b, off, q, e1, hlt, hc, ExAt.more hq (by omega)⟩
theorem RuleAt.more {w : World} {d d' : Nat} {r : RuleR} (h : RuleAt w d r) (hd : d ≤ d') : RuleAt w d' r := ⟨h.cond.more hd, h.key.more hd, h.val.more hd, h.txt⟩
theorem exR_of {w : World} {d : Nat} {e : ExprV} {cs : List Value} (h : ExAt w d e cs) : ∃ r : ExR, cs = r.cells ∧ e = r.tree := by
  obtain ⟨k, n, s, a⟩ := e
  obtain ⟨ao, cap, rfl⟩ := ExAt_pos h
  exact ⟨⟨k, n, s, ao, cap, a⟩, rfl, rfl⟩
theorem cells_rule : Tryz.prog.cellsOf 69 = 15 := by kernel_rfl
theorem cells_bool1 : Tryz.prog.cellsOf 4 = 1 := by kernel_rfl
set_option maxRecDepth 100000 in
theorem el_rule {H : Type} {enc0 : TypeId × Value → H} {w : World} (fuel : Nat) (cs : List Value) (x) (h : DataW.trod enc0 Tryz.prog w 0 (fun _ => true) true fuel 69 cs = some x) : ∃ r : RuleR, cs = encRule r ∧ ∃ d, RuleAt w d r := by
  obtain ⟨xs, n, _, rfl, hl, hlen, hf⟩ := DataW.trod_struct Tryz.underlying69 h
  match xs, hlen with
  | [y0, y1, y2, y3, y4, y5], _ =>
    have h0 := by simpa using hf 0 _ rfl
    have h1 := by simpa using hf 1 _ rfl
    have h2 := by simpa using hf 2 _ rfl
    have h3 := by simpa using hf 3 _ rfl
    have h4 := by simpa using hf 4 _ rfl
    have h5 := by simpa using hf 5 _ rfl
    rw [cells_rule] at hl
    obtain ⟨each, e0, _⟩ := DataW.trod_bool Tryz.underlying4 h0
    obtain ⟨wh, e1, _⟩ := DataW.trod_int Tryz.underlying3 h1
    obtain ⟨txt, e3, _, htx⟩ := DataW.trod_string Tryz.underlying9 h3
    try dsimp only at e0 e1 e3 h2 h4 h5
    rw [cells_bool1] at e0
    rw [cells_int] at e1
    rw [cells_txt] at e3
    rw [cells_expr] at h2 h4 h5
    obtain ⟨c, hc, _⟩ := el_expr (Rows.uptoBulk y2.1) n _ _ (Nat.le_refl _) h2
    obtain ⟨kx, hkx, _⟩ := el_expr (Rows.uptoBulk y4.1) n _ _ (Nat.le_refl _) h4
    obtain ⟨vx, hvx, _⟩ := el_expr (Rows.uptoBulk y5.1) n _ _ (Nat.le_refl _) h5
    obtain ⟨rc, qc, rfl⟩ := exR_of hc
    obtain ⟨rk, qk, rfl⟩ := exR_of hkx
    obtain ⟨rv, qv, rfl⟩ := exR_of hvx
    rw [qc] at hc
    rw [qk] at hkx
    rw [qv] at hvx
    match cs, hl with
    | [c0, c1, c2, c3, c4, c5, c6, c7, c8, c9, c10, c11, c12, c13, c14], _ =>
      simp [ExR.cells, encX] at e0 e1 e3 qc qk qv
      refine ⟨⟨each, wh, rc, txt, rk, rv⟩, ?_, max (Rows.uptoBulk y2.1) (max (Rows.uptoBulk y4.1) (Rows.uptoBulk y5.1)), hc.more (by omega), hkx.more (by omega), hvx.more (by omega), htx⟩
      simp [encRule, e0, e1, e3, qc, qk, qv]
end Go.Proofs.YtgeedjlbajmdkaaGreatDoor
/- What is wrong with a job (plain). -/
namespace Go.Proofs.YtgeedjlbajmdkaaGreatDoor
open Go.RowKit

/-- an empty condition -/
def blankE : ExprV → Bool
  | .mk k n s a => (k == 0) && ((n == 0) && (s.toList.isEmpty && a.isEmpty))
/-- what is wrong with a rule's condition -/
def condF (r : RuleV) : Int :=
  if r.when_ = 0 then (if r.txt.toList.isEmpty = true ∧ blankE r.cond = true then 0 else 3)
  else if r.when_ = 1 ∨ r.when_ = 2 then (if r.txt.size ≤ 20 ∧ decide (0 ≤ Lib.indexByte r.txt.data.toList 10) = false then faultE r.cond true r.each else 3)
  else 3
def ruleF (r : RuleV) : Int :=
  if condF r ≠ 0 then condF r else if faultE r.key true r.each ≠ 0 then faultE r.key true r.each else faultE r.val false r.each
def rulesF : List RuleV → Int
  | [] => 0
  | r :: l => if ruleF r ≠ 0 then ruleF r else rulesF l
def jobF (rs : List RuleV) (fold slices : Int) : Int :=
  if rs.length < 1 ∨ 4 < rs.length then 2 else if fold < 1 ∨ 4 < fold then 3 else if slices < 1 ∨ 4 < slices then 1 else rulesF rs
theorem condF_nn (r : RuleV) : 0 ≤ condF r := by
  unfold condF
  split
  · split <;> decide
  · split
    · split
      · exact faultE_nn _ _ _
      · decide
    · decide
theorem ruleF_nn (r : RuleV) : 0 ≤ ruleF r := by
  unfold ruleF
  split
  · exact condF_nn r
  · split
    · exact faultE_nn _ _ _
    · exact faultE_nn _ _ _
theorem rulesF_nn : ∀ l : List RuleV, 0 ≤ rulesF l
  | [] => Int.le_refl _
  | r :: l => by
    unfold rulesF
    split
    · exact ruleF_nn r
    · exact rulesF_nn l
theorem jobF_nn (rs : List RuleV) (fold slices : Int) : 0 ≤ jobF rs fold slices := by
  unfold jobF
  split
  · decide
  · split
    · decide
    · split
      · decide
      · exact rulesF_nn rs
theorem rulesF_drop {l : List RuleV} {i : Nat} {r : RuleV} (h : l[i]? = some r) : rulesF (l.drop i) = if ruleF r ≠ 0 then ruleF r else rulesF (l.drop (i + 1)) := by
  obtain ⟨hlt, hx⟩ := List.getElem?_eq_some_iff.1 h
  rw [List.drop_eq_getElem_cons hlt, hx]
  rfl
theorem rulesF_all : ∀ {l : List RuleV}, rulesF l = 0 → ∀ r ∈ l, ruleF r = 0
  | [], _, r, hr => by cases hr
  | a :: l, h, r, hr => by
    unfold rulesF at h
    split at h
    · rename_i h2; exact absurd h h2
    · rename_i h2
      rcases List.mem_cons.1 hr with rfl | hr
      · exact Classical.not_not.1 h2
      · exact rulesF_all h r hr
theorem rulesF_zero : ∀ {l : List RuleV}, (∀ r ∈ l, ruleF r = 0) → rulesF l = 0
  | [], _ => rfl
  | a :: l, h => by
    unfold rulesF
    rw [if_neg (by rw [h a List.mem_cons_self]; simp)]
    exact rulesF_zero fun r hr => h r (List.mem_cons_of_mem _ hr)
theorem fault_ok {e : ExprV} {text each : Bool} (h : faultE e text each = 0) : e.nodes ≤ 30 ∧ e.deep ≤ 5 ∧ shE e text each = true := by
  unfold faultE at h
  split at h
  · cases h
  · rename_i h1
    split at h
    · rename_i h2; exact ⟨by omega, by omega, h2⟩
    · cases h
/-- a rule that may be -/
structure RuleOk (r : RuleV) : Prop where
  key : r.key.nodes ≤ 30 ∧ r.key.deep ≤ 5 ∧ shE r.key true r.each = true
  val : r.val.nodes ≤ 30 ∧ r.val.deep ≤ 5 ∧ shE r.val false r.each = true
  cond : r.when_ ≠ 0 → r.cond.nodes ≤ 30 ∧ r.cond.deep ≤ 5 ∧ shE r.cond true r.each = true
  whn : r.when_ = 0 ∨ r.when_ = 1 ∨ r.when_ = 2
  txt : r.txt.size ≤ 20
theorem RuleOk.of {r : RuleV} (h : ruleF r = 0) : RuleOk r := by
  unfold ruleF at h
  split at h
  · rename_i h2; exact absurd h h2
  · rename_i h1
    split at h
    · rename_i h2; exact absurd h h2
    · rename_i h2
      have hc : condF r = 0 := Classical.not_not.1 h1
      have hk : faultE r.key true r.each = 0 := Classical.not_not.1 h2
      refine ⟨fault_ok hk, fault_ok h, fun hw => ?_, ?_, ?_⟩
      · unfold condF at hc
        rw [if_neg hw] at hc
        split at hc
        · split at hc
          · exact fault_ok hc
          · cases hc
        · cases hc
      · unfold condF at hc
        split at hc
        · left; assumption
        · split at hc
          · right; assumption
          · cases hc
      · unfold condF at hc
        split at hc
        · split at hc
          · rename_i h3
            have h4 : r.txt.toList = [] := List.isEmpty_iff.1 h3.1
            have h5 : r.txt.size = r.txt.toList.length := by rw [tl, tl_len]
            rw [h5, h4]; exact Nat.zero_le _
          · cases hc
        · split at hc
          · split at hc
            · rename_i h3; exact h3.1
            · cases hc
          · cases hc
theorem jobF_ok {rs : List RuleV} {fold slices : Int} (h : jobF rs fold slices = 0) : (1 ≤ rs.length ∧ rs.length ≤ 4) ∧ (1 ≤ fold ∧ fold ≤ 4) ∧ (1 ≤ slices ∧ slices ≤ 4) ∧ ∀ r ∈ rs, ruleF r = 0 := by
  unfold jobF at h
  split at h
  · cases h
  · split at h
    · cases h
    · split at h
      · cases h
      · exact ⟨by omega, by omega, by omega, rulesF_all h⟩
end Go.Proofs.YtgeedjlbajmdkaaGreatDoor
namespace Go.Proofs.YtgeedjlbajmdkaaGreatDoor
open Go.RowKit

theorem ruleF_cond {r : RuleV} (h : condF r ≠ 0) : ruleF r = condF r := if_pos h
theorem ruleF_key {r : RuleV} (h : condF r = 0) (hk : faultE r.key true r.each ≠ 0) : ruleF r = faultE r.key true r.each := by
  unfold ruleF; rw [if_neg (by rw [h]; simp), if_pos hk]
theorem ruleF_val {r : RuleV} (h : condF r = 0) (hk : faultE r.key true r.each = 0) : ruleF r = faultE r.val false r.each := by
  unfold ruleF; rw [if_neg (by rw [h]; simp), if_neg (by rw [hk]; simp)]
theorem condF_0 {r : RuleV} (h : r.when_ = 0) : condF r = if r.txt.toList.isEmpty = true ∧ blankE r.cond = true then 0 else 3 := if_pos h
theorem condF_12 {r : RuleV} (h : r.when_ = 1 ∨ r.when_ = 2) : condF r = if r.txt.size ≤ 20 ∧ decide (0 ≤ Lib.indexByte r.txt.data.toList 10) = false then faultE r.cond true r.each else 3 := by
  unfold condF; rw [if_neg (by omega), if_pos h]
theorem condF_no {r : RuleV} (h : ¬ r.when_ = 0) (h1 : ¬ (r.when_ = 1 ∨ r.when_ = 2)) : condF r = 3 := by
  unfold condF; rw [if_neg h, if_neg h1]
set_option maxRecDepth 100000 in
set_option maxHeartbeats 4000000 in
theorem rule_any (r : RuleR) (d : Nat) (w : World) (h : RuleAt w d r) :
    Calls Tryz.prog 40 #[r.agg] w fun e w' => e = .returned (errV (ruleF r.v)) ∧ Below w.heap.size w w' := by
  obtain ⟨each, wh, ⟨ck, cn, cs, cao, ccap, ca⟩, txt, ⟨kk, kn, ks, kao, kcap, ka⟩, ⟨vk, vn, vs, vao, vcap, va⟩⟩ := r
  obtain ⟨hc, hk, hv, ht⟩ := h
  unfold ExR.tree ExR.cells at hc hk hv
  dsimp only at hc hk hv ht
  obtain ⟨W, hW⟩ : ∃ W, W = w.alloc (.cells #[.bool each, .int .i64 wh, .int .i64 ck, .int .i64 cn, .string cs, .slice cao ca.length ccap, .string txt, .int .i64 kk, .int .i64 kn, .string ks, .slice kao ka.length kcap, .int .i64 vk, .int .i64 vn, .string vs, .slice vao va.length vcap] 69) := ⟨_, rfl⟩
  have hb0 : Below w.heap.size w W := by rw [hW]; exact (Below.refl _ _).alloc (Nat.le_refl _) _
  have hbk : Bk W w.heap.size [.bool each, .int .i64 wh, .int .i64 ck, .int .i64 cn, .string cs, .slice cao ca.length ccap, .string txt, .int .i64 kk, .int .i64 kn, .string ks, .slice kao ka.length kcap, .int .i64 vk, .int .i64 vn, .string vs, .slice vao va.length vcap] := by rw [hW]; exact Bk.new rfl
  have c0 := hbk.get (j := 0) rfl
  have c1 := hbk.get (j := 1) rfl
  have c2 := hbk.get (j := 2) rfl
  have c3 := hbk.get (j := 3) rfl
  have c4 := hbk.get (j := 4) rfl
  have c5 := hbk.get (j := 5) rfl
  have c6 := hbk.get (j := 6) rfl
  have c7 := hbk.get (j := 7) rfl
  have c8 := hbk.get (j := 8) rfl
  have c9 := hbk.get (j := 9) rfl
  have c10 := hbk.get (j := 10) rfl
  have c11 := hbk.get (j := 11) rfl
  have c12 := hbk.get (j := 12) rfl
  have c13 := hbk.get (j := 13) rfl
  have c14 := hbk.get (j := 14) rfl
  have HCC := hide fun w' (hb : Below w.heap.size w w') => Check_any d ck cn cs ca cao ccap w' true each (hc.later hb (Nat.le_refl _))
  have HKC := hide fun w' (hb : Below w.heap.size w w') => Check_any d kk kn ks ka kao kcap w' true each (hk.later hb (Nat.le_refl _))
  have HVC := hide fun w' (hb : Below w.heap.size w w') => Check_any d vk vn vs va vao vcap w' false each (hv.later hb (Nat.le_refl _))
  have HB := hide hb0
  obtain ⟨R, hR⟩ : ∃ R : RuleV, R = ⟨each, wh, .mk ck cn cs ca, txt, .mk kk kn ks ka, .mk vk vn vs va⟩ := ⟨_, rfl⟩
  have HFC : Hid (faultE R.cond true R.each = faultE (.mk ck cn cs ca) true each) := by rw [hR]; rfl
  have HFK : Hid (faultE R.key true R.each = faultE (.mk kk kn ks ka) true each) := by rw [hR]; rfl
  have HFV : Hid (faultE R.val false R.each = faultE (.mk vk vn vs va) false each) := by rw [hR]; rfl
  have HRW : Hid (R.when_ = wh) := by rw [hR]; rfl
  have HRT : Hid (R.txt = txt) := by rw [hR]; rfl
  have HRB : Hid (blankE R.cond = ((ck == 0) && ((cn == 0) && (cs.toList.isEmpty && ca.isEmpty)))) := by rw [hR]; rfl
  rw [show RuleR.v ⟨each, wh, ⟨ck, cn, cs, cao, ccap, ca⟩, txt, ⟨kk, kn, ks, kao, kcap, ka⟩, ⟨vk, vn, vs, vao, vcap, va⟩⟩ = R from hR.symm]
  generalize faultE (.mk ck cn cs ca) true each = fc at *
  generalize faultE (.mk kk kn ks ka) true each = fk at *
  generalize faultE (.mk vk vn vs va) false each = fv at *
  have HWW := hide hW
  clear hR hc hk hv hb0 hbk hW
  unfold maxLen at ht
  show Calls Tryz.prog 40 #[.agg #[.bool each, .int .i64 wh, .int .i64 ck, .int .i64 cn, .string cs, .slice cao ca.length ccap, .string txt, .int .i64 kk, .int .i64 kn, .string ks, .slice kao ka.length kcap, .int .i64 vk, .int .i64 vn, .string vs, .slice vao va.length vcap]] w _
  go_enter Tryz.func40, Tryz.ntmps40
  go_upto_region 1 with (fail)
  rw [← HWW.out]
  clear HWW
  by_cases hw0 : wh = 0
  · have HC0 : Hid (condF R = if txt.toList.isEmpty = true ∧ ((ck == 0) && ((cn == 0) && (cs.toList.isEmpty && ca.isEmpty))) = true then 0 else 3) := by
      show _ = _
      rw [condF_0 (by rw [HRW.out]; exact hw0), HRT.out, HRB.out]
    have g1 : (wh == 0) = true := by simpa using hw0
    clear hw0 HFC HCC HRW HRT HRB
    obtain ⟨te, hte⟩ : ∃ te, txt.toList.isEmpty = te := ⟨_, rfl⟩
    cases te
    · have HC3 : Hid (condF R = 3) := by show _ = _; rw [HC0.out, hte]; rfl
      have HT : Hid (ruleF R = 3) := by show _ = _; rw [ruleF_cond (by rw [HC3.out]; decide), HC3.out]
      go_wp2
      go_ret
      exact ⟨by rw [HT.out]; rfl, HB.out⟩
    by_cases hck : ck = 0
    case neg =>
      have HC3 : Hid (condF R = 3) := by
        show _ = _
        rw [HC0.out, show (ck == 0) = false from beq_eq_false_iff_ne.2 hck]; simp
      have g4 : (ck != 0) = true := by simpa using hck
      have HT : Hid (ruleF R = 3) := by show _ = _; rw [ruleF_cond (by rw [HC3.out]; decide), HC3.out]
      go_wp2
      go_ret
      exact ⟨by rw [HT.out]; rfl, HB.out⟩
    have hke : (ck == 0) = true := by simpa using hck
    have g5 : (ck != 0) = false := by simpa using hck
    by_cases hcn : cn = 0
    case neg =>
      have HC3 : Hid (condF R = 3) := by
        show _ = _
        rw [HC0.out, show (cn == 0) = false from beq_eq_false_iff_ne.2 hcn]; simp
      have g4 : (cn != 0) = true := by simpa using hcn
      have HT : Hid (ruleF R = 3) := by show _ = _; rw [ruleF_cond (by rw [HC3.out]; decide), HC3.out]
      go_wp2
      go_ret
      exact ⟨by rw [HT.out]; rfl, HB.out⟩
    have hne : (cn == 0) = true := by simpa using hcn
    have g6 : (cn != 0) = false := by simpa using hcn
    obtain ⟨se, hse⟩ : ∃ se, cs.toList.isEmpty = se := ⟨_, rfl⟩
    cases se
    · have HC3 : Hid (condF R = 3) := by show _ = _; rw [HC0.out, hse]; simp
      have HT : Hid (ruleF R = 3) := by show _ = _; rw [ruleF_cond (by rw [HC3.out]; decide), HC3.out]
      go_wp2
      go_ret
      exact ⟨by rw [HT.out]; rfl, HB.out⟩
    by_cases hca : 0 < ca.length
    · have HC3 : Hid (condF R = 3) := by
        show _ = _
        rw [HC0.out]
        cases ca with
        | nil => simp at hca
        | cons a l => simp
      have g2 : decide (0 < ca.length) = true := by simpa using hca
      have g3 : decide ((0 : Int) < (ca.length : Int)) = true := by simp; omega
      have HT : Hid (ruleF R = 3) := by show _ = _; rw [ruleF_cond (by rw [HC3.out]; decide), HC3.out]
      go_wp2
      go_ret
      exact ⟨by rw [HT.out]; rfl, HB.out⟩
    have HCF : Hid (condF R = 0) := by
      show _ = _
      rw [HC0.out, hte, hke, hne, hse]
      obtain rfl : ca = [] := List.length_eq_zero_iff.1 (by omega)
      rfl
    have g2 : decide (0 < ca.length) = false := by simpa using hca
    have g3 : decide ((0 : Int) < (ca.length : Int)) = false := by rw [decide_eq_false_iff_not]; omega
    clear HC0 hca hck hcn hke hne
    go_wp2_with fail
    refine (HKC.out _ HB.out).mono ?_
    rintro e w5 ⟨rfl, b5⟩
    replace c0 := cell_later b5 c0
    replace c11 := cell_later b5 c11
    replace c12 := cell_later b5 c12
    replace c13 := cell_later b5 c13
    replace c14 := cell_later b5 c14
    replace HB := hide (HB.out.trans (b5.mono HB.out.size))
    clear b5 HKC
    by_cases hfk : fk = 0
    · have HT : Hid (ruleF R = fv) := by
        show _ = _
        rw [← HFV.out]
        exact ruleF_val HCF.out (by rw [HFK.out]; exact hfk)
      rw [hfk, errV_zero]
      clear HFK HFV hfk
      go_wp2_with fail
      refine (HVC.out _ HB.out).mono ?_
      rintro e w6 ⟨rfl, b6⟩
      replace HB := hide (HB.out.trans (b6.mono HB.out.size))
      clear b6 HVC
      go_wp2
      go_ret
      exact ⟨by rw [HT.out]; rfl, HB.out⟩
    · have HT : Hid (ruleF R = fk) := by
        show _ = _
        rw [← HFK.out]
        exact ruleF_key HCF.out (by rw [HFK.out]; exact hfk)
      rw [errV_pos hfk]
      have HFE := hide (errV_pos hfk)
      clear HFK HFV hfk HVC
      go_wp2
      go_ret
      exact ⟨by rw [HT.out, HFE.out]; rfl, HB.out⟩
  · have g1 : (wh == 0) = false := by simpa using hw0
    by_cases hw1 : wh = 1 ∨ wh = 2
    · have HC0 : Hid (condF R = if txt.size ≤ 20 ∧ decide (0 ≤ Lib.indexByte txt.data.toList 10) = false then fc else 3) := by
        show _ = _
        rw [condF_12 (by rw [HRW.out]; exact hw1), HRT.out, HFC.out]
      clear hw0 HFC HRW HRT HRB
      by_cases ht20 : 20 < txt.size
      · have HC3 : Hid (condF R = 3) := by show _ = _; rw [HC0.out, if_neg (by omega)]
        have g4 : decide ((20 : Int) < (txt.size : Int)) = true := by simp; omega
        rcases hw1 with h1 | h1
        · have g2 : (wh == 1) = true := by rw [h1]; rfl
          clear h1
          have HT : Hid (ruleF R = 3) := by show _ = _; rw [ruleF_cond (by rw [HC3.out]; decide), HC3.out]
          go_wp2
          go_ret
          exact ⟨by rw [HT.out]; rfl, HB.out⟩
        · have g2 : (wh == 1) = false := by rw [h1]; rfl
          have g3 : (wh == 2) = true := by rw [h1]; rfl
          clear h1
          have HT : Hid (ruleF R = 3) := by show _ = _; rw [ruleF_cond (by rw [HC3.out]; decide), HC3.out]
          go_wp2
          go_ret
          exact ⟨by rw [HT.out]; rfl, HB.out⟩
      have g4 : decide ((20 : Int) < (txt.size : Int)) = false := by simp; omega
      have HST := hide fun w' => Tryz.strings_Contains_one txt 10 w'
      obtain ⟨io, hio⟩ : ∃ io, decide (0 ≤ Lib.indexByte txt.data.toList 10) = io := ⟨_, rfl⟩
      rw [hio] at HC0
      simp only [hio] at HST
      clear hio
      rcases hw1 with h1 | h1
      · have g2 : (wh == 1) = true := by rw [h1]; rfl
        clear h1
        go_wp2_with fail
        refine (HST.out _).mono ?_
        rintro e w3 ⟨rfl, rfl⟩
        clear HST
        cases io
        · have HCE : Hid (condF R = fc) := by show _ = _; rw [HC0.out, if_pos ⟨Nat.le_of_not_lt ht20, rfl⟩]
          clear HC0
          go_wp2_with fail
          refine (HCC.out _ HB.out).mono ?_
          rintro e w4 ⟨rfl, b4⟩
          replace c0 := cell_later b4 c0
          replace c7 := cell_later b4 c7
          replace c8 := cell_later b4 c8
          replace c9 := cell_later b4 c9
          replace c10 := cell_later b4 c10
          replace c11 := cell_later b4 c11
          replace c12 := cell_later b4 c12
          replace c13 := cell_later b4 c13
          replace c14 := cell_later b4 c14
          replace HB := hide (HB.out.trans (b4.mono HB.out.size))
          clear b4 HCC
          by_cases hfc : fc = 0
          · have HCF : Hid (condF R = 0) := by show _ = _; rw [HCE.out]; exact hfc
            rw [hfc, errV_zero]
            clear HCE hfc
            go_wp2_with fail
            refine (HKC.out _ HB.out).mono ?_
            rintro e w5 ⟨rfl, b5⟩
            replace c0 := cell_later b5 c0
            replace c11 := cell_later b5 c11
            replace c12 := cell_later b5 c12
            replace c13 := cell_later b5 c13
            replace c14 := cell_later b5 c14
            replace HB := hide (HB.out.trans (b5.mono HB.out.size))
            clear b5 HKC
            by_cases hfk : fk = 0
            · have HT : Hid (ruleF R = fv) := by
                show _ = _
                rw [← HFV.out]
                exact ruleF_val HCF.out (by rw [HFK.out]; exact hfk)
              rw [hfk, errV_zero]
              clear HFK HFV hfk
              go_wp2_with fail
              refine (HVC.out _ HB.out).mono ?_
              rintro e w6 ⟨rfl, b6⟩
              replace HB := hide (HB.out.trans (b6.mono HB.out.size))
              clear b6 HVC
              go_wp2
              go_ret
              exact ⟨by rw [HT.out]; rfl, HB.out⟩
            · have HT : Hid (ruleF R = fk) := by
                show _ = _
                rw [← HFK.out]
                exact ruleF_key HCF.out (by rw [HFK.out]; exact hfk)
              rw [errV_pos hfk]
              have HFE := hide (errV_pos hfk)
              clear HFK HFV hfk HVC
              go_wp2
              go_ret
              exact ⟨by rw [HT.out, HFE.out]; rfl, HB.out⟩
          · have HT : Hid (ruleF R = fc) := by show _ = _; rw [ruleF_cond (by rw [HCE.out]; exact hfc), HCE.out]
            rw [errV_pos hfc]
            have HFE := hide (errV_pos hfc)
            clear HCE HFK HFV hfc HVC HKC
            go_wp2
            go_ret
            exact ⟨by rw [HT.out, HFE.out]; rfl, HB.out⟩
        · have HC3 : Hid (condF R = 3) := by show _ = _; rw [HC0.out, if_neg (by simp)]
          have HT : Hid (ruleF R = 3) := by show _ = _; rw [ruleF_cond (by rw [HC3.out]; decide), HC3.out]
          go_wp2
          go_ret
          exact ⟨by rw [HT.out]; rfl, HB.out⟩
      · have g2 : (wh == 1) = false := by rw [h1]; rfl
        have g3 : (wh == 2) = true := by rw [h1]; rfl
        clear h1
        go_wp2_with fail
        refine (HST.out _).mono ?_
        rintro e w3 ⟨rfl, rfl⟩
        clear HST
        cases io
        · have HCE : Hid (condF R = fc) := by show _ = _; rw [HC0.out, if_pos ⟨Nat.le_of_not_lt ht20, rfl⟩]
          clear HC0
          go_wp2_with fail
          refine (HCC.out _ HB.out).mono ?_
          rintro e w4 ⟨rfl, b4⟩
          replace c0 := cell_later b4 c0
          replace c7 := cell_later b4 c7
          replace c8 := cell_later b4 c8
          replace c9 := cell_later b4 c9
          replace c10 := cell_later b4 c10
          replace c11 := cell_later b4 c11
          replace c12 := cell_later b4 c12
          replace c13 := cell_later b4 c13
          replace c14 := cell_later b4 c14
          replace HB := hide (HB.out.trans (b4.mono HB.out.size))
          clear b4 HCC
          by_cases hfc : fc = 0
          · have HCF : Hid (condF R = 0) := by show _ = _; rw [HCE.out]; exact hfc
            rw [hfc, errV_zero]
            clear HCE hfc
            go_wp2_with fail
            refine (HKC.out _ HB.out).mono ?_
            rintro e w5 ⟨rfl, b5⟩
            replace c0 := cell_later b5 c0
            replace c11 := cell_later b5 c11
            replace c12 := cell_later b5 c12
            replace c13 := cell_later b5 c13
            replace c14 := cell_later b5 c14
            replace HB := hide (HB.out.trans (b5.mono HB.out.size))
            clear b5 HKC
            by_cases hfk : fk = 0
            · have HT : Hid (ruleF R = fv) := by
                show _ = _
                rw [← HFV.out]
                exact ruleF_val HCF.out (by rw [HFK.out]; exact hfk)
              rw [hfk, errV_zero]
              clear HFK HFV hfk
              go_wp2_with fail
              refine (HVC.out _ HB.out).mono ?_
              rintro e w6 ⟨rfl, b6⟩
              replace HB := hide (HB.out.trans (b6.mono HB.out.size))
              clear b6 HVC
              go_wp2
              go_ret
              exact ⟨by rw [HT.out]; rfl, HB.out⟩
            · have HT : Hid (ruleF R = fk) := by
                show _ = _
                rw [← HFK.out]
                exact ruleF_key HCF.out (by rw [HFK.out]; exact hfk)
              rw [errV_pos hfk]
              have HFE := hide (errV_pos hfk)
              clear HFK HFV hfk HVC
              go_wp2
              go_ret
              exact ⟨by rw [HT.out, HFE.out]; rfl, HB.out⟩
          · have HT : Hid (ruleF R = fc) := by show _ = _; rw [ruleF_cond (by rw [HCE.out]; exact hfc), HCE.out]
            rw [errV_pos hfc]
            have HFE := hide (errV_pos hfc)
            clear HCE HFK HFV hfc HVC HKC
            go_wp2
            go_ret
            exact ⟨by rw [HT.out, HFE.out]; rfl, HB.out⟩
        · have HC3 : Hid (condF R = 3) := by show _ = _; rw [HC0.out, if_neg (by simp)]
          have HT : Hid (ruleF R = 3) := by show _ = _; rw [ruleF_cond (by rw [HC3.out]; decide), HC3.out]
          go_wp2
          go_ret
          exact ⟨by rw [HT.out]; rfl, HB.out⟩
    · have HC3 : Hid (condF R = 3) := condF_no (by rw [HRW.out]; exact hw0) (by rw [HRW.out]; exact hw1)
      have g2 : (wh == 1) = false := by rw [beq_eq_false_iff_ne]; omega
      have g3 : (wh == 2) = false := by rw [beq_eq_false_iff_ne]; omega
      clear hw0 hw1
      have HT : Hid (ruleF R = 3) := by show _ = _; rw [ruleF_cond (by rw [HC3.out]; decide), HC3.out]
      go_wp2
      go_ret
      exact ⟨by rw [HT.out]; rfl, HB.out⟩
end Go.Proofs.YtgeedjlbajmdkaaGreatDoor
/- Slices of pairs: none is lost; what comes out of them. -/
namespace Go.Proofs.YtgeedjlbajmdkaaGreatDoor
open Go.RowKit

theorem sum_add (f g : Nat → Nat) : ∀ n, ((List.range n).map fun i => f i + g i).sum = ((List.range n).map f).sum + ((List.range n).map g).sum
  | 0 => rfl
  | n + 1 => by
    have ih := sum_add f g n
    rw [List.range_succ, List.map_append, List.map_append, List.map_append, List.sum_append, List.sum_append, List.sum_append, ih]
    simp only [List.map_cons, List.map_nil, List.sum_cons, List.sum_nil]
    omega
theorem sum_one (k : Nat) : ∀ n, ((List.range n).map fun i => if i = k then 1 else 0).sum = if k < n then 1 else 0
  | 0 => by simp
  | n + 1 => by
    have ih := sum_one k n
    rw [List.range_succ, List.map_append, List.sum_append, ih]
    simp only [List.map_cons, List.map_nil, List.sum_cons, List.sum_nil]
    split <;> split <;> split <;> omega
theorem sum_zero : ∀ n, ((List.range n).map fun _ => 0).sum = 0
  | 0 => rfl
  | n + 1 => by rw [List.range_succ, List.map_append, List.sum_append, sum_zero n]; rfl
theorem sum_le {f g : Nat → Nat} (h : ∀ i, f i ≤ g i) : ∀ n, ((List.range n).map f).sum ≤ ((List.range n).map g).sum
  | 0 => Nat.le_refl _
  | n + 1 => by
    have ih := sum_le h n
    have h1 := h n
    rw [List.range_succ, List.map_append, List.map_append, List.sum_append, List.sum_append]
    simp only [List.map_cons, List.map_nil, List.sum_cons, List.sum_nil]
    omega
theorem inSlice_iff {many : Nat} (hm : 1 ≤ many) (p : Pr) (n : Nat) : inSlice many n p = decide (n = (sliceB p.1 many).toNat) := by
  have h := sliceB_bd p.1 many
  unfold inSlice
  refine decide_eq_decide.2 ⟨fun e => by omega, fun e => by omega⟩
theorem slice_lt {many : Nat} (hm : 1 ≤ many) (p : Pr) : (sliceB p.1 many).toNat < many := by
  have h := sliceB_bd p.1 many
  omega
/-- none is lost -/
theorem slices_count {many : Nat} (hm : 1 ≤ many) : ∀ (l : List Pr), ((List.range many).map fun n => (l.filter (inSlice many n)).length).sum = l.length
  | [] => sum_zero many
  | p :: l => by
    have ih := slices_count hm l
    have e : (fun n => ((p :: l).filter (inSlice many n)).length) = fun n => (l.filter (inSlice many n)).length + if n = (sliceB p.1 many).toNat then 1 else 0 := by
      funext n
      by_cases h : n = (sliceB p.1 many).toNat
      · rw [List.filter_cons_of_pos (by rw [inSlice_iff hm]; simpa using h), if_pos h, List.length_cons]
      · rw [List.filter_cons_of_neg (by rw [inSlice_iff hm]; simpa using h), if_neg h]; rfl
    rw [e, sum_add, ih, sum_one, if_pos (slice_lt hm p), List.length_cons]
theorem cutP_len (fold : Int) (early : Bool) (many : Nat) (l : List Pr) : (cutP fold early many l).length = many := by unfold cutP; rw [List.length_map, List.length_range]
/-- a slice's pairs, folded at last -/
theorem cutP_grp {fold : Int} {early : Bool} {many n : Nat} {l s : List Pr} (h : n < many) (hs : (cutP fold early many l)[n]? = some s) : grp fold s = grp fold (l.filter (inSlice many n)) := by
  rw [cutP_get h] at hs
  cases hs
  split
  · exact grp_grp _ _
  · exact grp_perm (srt_perm _)
/-- a slice rises -/
theorem cutP_rise {fold : Int} {early : Bool} {many n : Nat} {l s : List Pr} (h : n < many) (hs : (cutP fold early many l)[n]? = some s) : Rise s := by
  rw [cutP_get h] at hs
  cases hs
  split
  · exact (grp_incr _ _).imp fun h => klt_asymm h
  · exact srt_rise _
/-- what is in a slice is of its keys -/
theorem cutP_in {fold : Int} {early : Bool} {many n : Nat} {l s : List Pr} (h : n < many) (hs : (cutP fold early many l)[n]? = some s) : ∀ p ∈ s, inSlice many n p = true := by
  rw [cutP_get h] at hs
  cases hs
  intro p hp
  split at hp
  · rw [← grp_filter (inSlice_key _ _)] at hp
    exact (List.mem_filter.1 hp).2
  · rw [← srt_filter (inSlice_key _ _)] at hp
    exact (List.mem_filter.1 hp).2
/-- parts of an input, slice by slice: early or not, the same comes out -/
theorem parts_grp {fold : Int} {early : Bool} {many n : Nat} (h : n < many) : ∀ (ls : List (List Pr)) (ss : List (List Pr)), ss.length = ls.length → (∀ (i : Nat) l s, ls[i]? = some l → ss[i]? = some s → (cutP fold early many l)[n]? = some s) → grp fold ss.flatten = grp fold (ls.flatten.filter (inSlice many n))
  | [], ss, hl, _ => by
    obtain rfl : ss = [] := List.length_eq_zero_iff.1 hl
    rfl
  | l :: ls, ss, hl, hh => by
    rcases ss with _ | ⟨s, ss⟩
    · simp at hl
    · have ih := parts_grp h ls ss (by simpa using hl) fun i a b ha hb => hh (i + 1) a b ha hb
      have h0 := cutP_grp h (hh 0 l s rfl rfl)
      rw [List.flatten_cons, List.flatten_cons, List.filter_append]
      rw [← grp_parts fold s, ← grp_parts fold (l.filter _), h0, ih]
end Go.Proofs.YtgeedjlbajmdkaaGreatDoor
/- Pairs dealt out into slices, one by one; then each folded (plain). -/
namespace Go.Proofs.YtgeedjlbajmdkaaGreatDoor
open Go.RowKit

def cutTo (many : Nat) (S : List Pr) : List (List Pr) := (List.range many).map fun n => S.filter (inSlice many n)
theorem cutTo_len (many : Nat) (S : List Pr) : (cutTo many S).length = many := by unfold cutTo; rw [List.length_map, List.length_range]
theorem cutTo_nil (many : Nat) : cutTo many [] = List.replicate many [] := by
  unfold cutTo
  apply List.ext_getElem?
  intro i
  rw [List.getElem?_map, List.getElem?_replicate]
  by_cases h : i < many
  · rw [List.getElem?_range h, if_pos h]; rfl
  · rw [List.getElem?_eq_none (by rw [List.length_range]; omega), if_neg h]; rfl
theorem cutTo_get {many n : Nat} {S : List Pr} (h : n < many) : (cutTo many S)[n]? = some (S.filter (inSlice many n)) := by
  unfold cutTo
  rw [List.getElem?_map, List.getElem?_range h]; rfl
theorem cutTo_snoc {many : Nat} (hm : 1 ≤ many) (S : List Pr) (p : Pr) : cutTo many (S ++ [p]) = (cutTo many S).set (sliceB p.1 many).toNat (S.filter (inSlice many (sliceB p.1 many).toNat) ++ [p]) := by
  apply List.ext_getElem?
  intro i
  by_cases h : i < many
  · rw [cutTo_get h, List.filter_append]
    by_cases e : i = (sliceB p.1 many).toNat
    · subst e
      rw [List.getElem?_set_self (by rw [cutTo_len]; exact h)]
      have : inSlice many (sliceB p.1 many).toNat p = true := by rw [inSlice_iff hm]; simp
      simp [this]
    · rw [List.getElem?_set_ne (fun e2 => e e2.symm), cutTo_get h]
      have : inSlice many i p = false := by rw [inSlice_iff hm]; simpa using e
      simp [this]
  · rw [List.getElem?_eq_none (by rw [cutTo_len]; omega), List.getElem?_eq_none (by rw [List.length_set, cutTo_len]; omega)]
def foldTo (kind : Int) (many : Nat) (S : List Pr) (j : Nat) : List (List Pr) := (List.range many).map fun n => if n < j then groups kind (S.filter (inSlice many n)) else S.filter (inSlice many n)
theorem foldTo_zero (kind : Int) (many : Nat) (S : List Pr) : foldTo kind many S 0 = cutTo many S := by unfold foldTo cutTo; simp
theorem foldTo_len (kind : Int) (many : Nat) (S : List Pr) (j : Nat) : (foldTo kind many S j).length = many := by unfold foldTo; rw [List.length_map, List.length_range]
theorem foldTo_get {kind : Int} {many n j : Nat} {S : List Pr} (h : n < many) : (foldTo kind many S j)[n]? = some (if n < j then groups kind (S.filter (inSlice many n)) else S.filter (inSlice many n)) := by
  unfold foldTo
  rw [List.getElem?_map, List.getElem?_range h]; rfl
theorem foldTo_succ {kind : Int} {many j : Nat} {S : List Pr} (h : j < many) : foldTo kind many S (j + 1) = (foldTo kind many S j).set j (groups kind (S.filter (inSlice many j))) := by
  apply List.ext_getElem?
  intro i
  by_cases hi : i < many
  · rw [foldTo_get hi]
    by_cases e : i = j
    · subst e
      rw [List.getElem?_set_self (by rw [foldTo_len]; exact h), if_pos (by omega)]
    · rw [List.getElem?_set_ne (fun e2 => e e2.symm), foldTo_get hi]
      by_cases h2 : i < j
      · rw [if_pos h2, if_pos (by omega)]
      · rw [if_neg h2, if_neg (by omega)]
  · rw [List.getElem?_eq_none (by rw [foldTo_len]; omega), List.getElem?_eq_none (by rw [List.length_set, foldTo_len]; omega)]
theorem cutP_false {fold : Int} {many : Nat} (l : List Pr) : cutP fold false many l = cutTo many (srt l) := by unfold cutP cutTo; simp
theorem cutP_true {fold : Int} {many : Nat} (l : List Pr) : cutP fold true many l = foldTo fold many (srt l) many := by
  unfold cutP foldTo
  apply List.map_congr_left
  intro n hn
  rw [if_pos rfl, if_pos (List.mem_range.1 hn)]
end Go.Proofs.YtgeedjlbajmdkaaGreatDoor
/- A job that comes in as an argument. -/
namespace Go.Proofs.YtgeedjlbajmdkaaGreatDoor
open Go.RowKit Go.ChangeShapes Go.WideShapes Go.ChangeAt

theorem slc_capJ {H : Type} {enc0 : TypeId × Value → H} {P : Program} {w : World} {t e : TypeId} {ao : Option Addr} {n cap : Nat}
    (ht : P.underlying t = some (.slice e)) {x : DataW H × List MemPlace} {fuel : Nat} (hf : DataW.trod enc0 P w 0 (fun _ => true) true fuel t [.slice ao n cap] = some x) : n ≤ cap ∧ cap ≤ maxLen := by
  rcases Deep.open_slice ht hf with ⟨hcs, _⟩ | ⟨a', len', cap', m, k, D, Pl, hcs, _, hl, hm, _⟩
  · simp at hcs
    obtain ⟨_, rfl, rfl⟩ := hcs
    exact ⟨by omega, by simp⟩
  · simp at hcs
    obtain ⟨_, rfl, rfl⟩ := hcs
    exact ⟨hl, hm⟩
theorem rules_deep {w : World} : ∀ {rs : List RuleR}, (∀ r ∈ rs, ∃ d, RuleAt w d r) → ∃ d, ∀ r ∈ rs, RuleAt w d r
  | [], _ => ⟨0, fun r hr => by cases hr⟩
  | a :: rs, h => by
    obtain ⟨d1, h1⟩ := h a List.mem_cons_self
    obtain ⟨d2, h2⟩ := rules_deep (rs := rs) fun r hr => h r (List.mem_cons_of_mem _ hr)
    refine ⟨max d1 d2, fun r hr => ?_⟩
    rcases List.mem_cons.1 hr with rfl | hr
    · exact h1.more (Nat.le_max_left _ _)
    · exact (h2 r hr).more (Nat.le_max_right _ _)
/-- a job that comes in -/
structure JobIn (w : World) (ro : Option Addr) (rc : Nat) (rs : List RuleR) (fold slices : Int) : Prop where
  nil : ro = none → rc = 0
  sl : Sl 15 encRule w ro rs
  len : rs.length ≤ maxLen
  at_ : ∀ r ∈ rs, ∃ d, RuleAt w d r
  cap : rs.length ≤ rc ∧ rc ≤ maxLen
  fold : -9223372036854775808 ≤ fold ∧ fold ≤ 9223372036854775807
  slices : -9223372036854775808 ≤ slices ∧ slices ≤ 9223372036854775807
theorem cells_job : Tryz.prog.cellsOf 24 = 4 := by kernel_rfl
theorem cells_rules : Tryz.prog.cellsOf 22 = 1 := by kernel_rfl
set_option maxRecDepth 100000 in
theorem open_job {H : Type} {enc0 : TypeId × Value → H} {w : World} {cs : Array Value} {d : DataW H} {ps : List MemPlace} (h : DataW.Trod enc0 Tryz.prog w 0 (fun _ => true) true 24 (.agg cs) d ps) :
    ∃ ro rc rs fold early slices, Value.agg cs = .agg #[.slice ro (List.length (α := RuleR) rs) rc, .int .i64 fold, .bool early, .int .i64 slices] ∧ JobIn w ro rc rs fold slices := by
  obtain ⟨fuel, hf⟩ := h
  obtain ⟨xs, n, _, _, hl, hlen, hf⟩ := DataW.trod_struct Tryz.underlying24 hf
  match xs, hlen with
  | [y0, y1, y2, y3], _ =>
    have h0 := by simpa using hf 0 _ rfl
    have h1 := by simpa using hf 1 _ rfl
    have h2 := by simpa using hf 2 _ rfl
    have h3 := by simpa using hf 3 _ rfl
    rw [cells_job] at hl
    obtain ⟨fold, e1, _, w1⟩ := DataW.trod_int Tryz.underlying3 h1
    obtain ⟨early, e2, _⟩ := DataW.trod_bool Tryz.underlying4 h2
    obtain ⟨slices, e3, _, w3⟩ := DataW.trod_int Tryz.underlying3 h3
    try dsimp only at e1 e2 e3 h0
    rw [cells_rules] at h0
    rw [cells_int] at e1 e3
    rw [cells_bool1] at e2
    obtain ⟨ro, rc, rs, e0, k1, k2, k3, k4⟩ := open_slc Tryz.underlying22 cells_rule (by decide) el_rule h0
    have hc := slc_capJ Tryz.underlying22 (e0 ▸ h0)
    have b1 := bounds_i64 w1
    have b3 := bounds_i64 w3
    match cs, hl with
    | ⟨[c0, c1, c2, c3]⟩, _ =>
      simp [Value.cells] at e0 e1 e2 e3
      exact ⟨ro, rc, rs, fold, early, slices, by rw [e0, e1, e2, e3], k1, k2, k3, k4, hc, by omega, by omega⟩
theorem open_rule {H : Type} {enc0 : TypeId × Value → H} {w : World} {cs : Array Value} {d : DataW H} {ps : List MemPlace} (h : DataW.Trod enc0 Tryz.prog w 0 (fun _ => true) true 69 (.agg cs) d ps) :
    ∃ r : RuleR, Value.agg cs = r.agg ∧ ∃ d, RuleAt w d r := by
  obtain ⟨fuel, hf⟩ := h
  obtain ⟨r, hcs, hd⟩ := el_rule fuel _ _ hf
  have h2 : cs.toList = encRule r := by simpa [Value.cells] using hcs
  have h3 : cs = (encRule r).toArray := by rw [← h2]
  exact ⟨r, by rw [h3]; rfl, hd⟩
theorem el_txtJ {H : Type} {enc0 : TypeId × Value → H} {w : World} (fuel : Nat) (cs : List Value) (x) (h : DataW.trod enc0 Tryz.prog w 0 (fun _ => true) true fuel 9 cs = some x) : ∃ a : ByteArray, cs = encS a ∧ a.size ≤ maxLen := by
  obtain ⟨a, rfl, _, hs⟩ := DataW.trod_string Tryz.underlying9 h
  exact ⟨a, rfl, hs⟩
theorem open_texts {H : Type} {enc0 : TypeId × Value → H} {w : World} {v : Value} {d : DataW H} {ps : List MemPlace} (hv : ∃ a len cap, v = .slice a len cap) (h : DataW.Trod enc0 Tryz.prog w 0 (fun _ => true) true 42 v d ps) :
    ∃ ao cap l, v = .slice ao (List.length (α := ByteArray) l) cap ∧ (ao = none → cap = 0) ∧ Sl 1 encS w ao l ∧ l.length ≤ maxLen ∧ ∀ x ∈ l, x.size ≤ maxLen := by
  obtain ⟨a, len, cap, rfl⟩ := hv
  obtain ⟨fuel, hf⟩ := h
  obtain ⟨ao, c, l, e, k1, k2, k3, k4⟩ := open_slc Tryz.underlying42 cells_txt (by decide) el_txtJ hf
  simp [Value.cells] at e
  obtain ⟨rfl, rfl, rfl⟩ := e
  exact ⟨_, _, l, rfl, k1, k2, k3, k4⟩
end Go.Proofs.YtgeedjlbajmdkaaGreatDoor
