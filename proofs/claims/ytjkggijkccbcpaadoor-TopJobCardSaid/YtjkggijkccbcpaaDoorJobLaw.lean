/- What is wrong with a job (plain). -/
import Derived.Test.YtjkggijkccbcpaaDoorGroupLaw
import Derived.Test.YtjkggijkccbcpaaDoorPairSum
import Derived.Test.YtjkggijkccbcpaaDoorExpr8
import Derived.Test.YtjkggijkccbcpaaDoorExpr6
set_option linter.unusedSimpArgs false
set_option linter.unusedVariables false
/- Slices of pairs: those of a key lie in one; sorting and folding go by slices. -/
namespace Go.Proofs.YtjkggijkccbcpaaDoor
open Go.RowKit

/-- a test of the key alone -/
def ByKey (p : Pr → Bool) : Prop := ∀ a b : Pr, a.1 = b.1 → p a = p b
theorem filter_isK {p : Pr → Bool} (hp : ByKey p) (l : List Pr) (k : List UInt8) : (l.filter p).filter (isK k) = (l.filter (isK k)).filter p := by
  rw [List.filter_filter, List.filter_filter]
  congr 1
  funext a
  exact Bool.and_comm _ _
theorem srt_filter {p : Pr → Bool} (hp : ByKey p) (l : List Pr) : (srt l).filter p = srt (l.filter p) := by
  refine srt_of ((srt_rise l).sub List.filter_sublist) fun k => ?_
  rw [filter_isK hp, filter_isK hp, srt_same l k]
theorem insG_filter {p : Pr → Bool} (hp : ByKey p) {k : Int} {x : Pr} : ∀ (l : List Pr), Incr l → (insG k x l).filter p = if p x = true then insG k x (l.filter p) else l.filter p
  | [], _ => by
    rw [insG_nil]
    by_cases h : p x = true
    · rw [if_pos h, List.filter_cons_of_pos h, List.filter_nil, insG_nil]
    · rw [if_neg h, List.filter_cons_of_neg h]
  | a :: l, hi => by
    have ih := insG_filter hp (k := k) (x := x) l hi.tail
    rcases klt_or (a := a) (b := x) with e | e | e
    · rw [insG_lt e]
      by_cases ha : p a = true
      · rw [List.filter_cons_of_pos ha, List.filter_cons_of_pos ha, ih]
        by_cases hx : p x = true
        · rw [if_pos hx, if_pos hx, insG_lt e]
        · rw [if_neg hx, if_neg hx]
      · rw [List.filter_cons_of_neg ha, List.filter_cons_of_neg ha, ih]
    · have hpp := hp a x e
      have h2 : p (a.1, two k a.2 x.2) = p x := hp _ _ e
      rw [insG_eq e]
      by_cases hx : p x = true
      · rw [if_pos hx, List.filter_cons_of_pos (by rw [h2]; exact hx), List.filter_cons_of_pos (by rw [hpp]; exact hx), insG_eq e]
      · rw [if_neg hx, List.filter_cons_of_neg (by rw [h2]; exact hx), List.filter_cons_of_neg (by rw [hpp]; exact hx)]
    · rw [insG_gt e]
      by_cases hx : p x = true
      · rw [if_pos hx, List.filter_cons_of_pos hx]
        have hlt : ∀ b ∈ (a :: l).filter p, klt x b = true := by
          intro b hb
          rcases List.mem_cons.1 (List.mem_filter.1 hb).1 with h | h
          · rw [h]; exact e
          · exact klt_trans e (hi.head b h)
        generalize (a :: l).filter p = m at *
        rcases m with _ | ⟨b, m⟩
        · rw [insG_nil]
        · rw [insG_gt (hlt b List.mem_cons_self)]
      · rw [if_neg hx, List.filter_cons_of_neg hx]
theorem sumG_filter {p : Pr → Bool} (hp : ByKey p) {k : Int} : ∀ (l o : List Pr), Incr o → (sumG k o l).filter p = sumG k (o.filter p) (l.filter p)
  | [], _, _ => rfl
  | x :: l, o, ho => by
    show (sumG k (insG k x o) l).filter p = _
    rw [sumG_filter hp l _ (insG_incr ho), insG_filter hp o ho]
    by_cases hx : p x = true
    · rw [if_pos hx, List.filter_cons_of_pos hx]; rfl
    · rw [if_neg hx, List.filter_cons_of_neg hx]
theorem grp_filter {p : Pr → Bool} (hp : ByKey p) (k : Int) (l : List Pr) : (grp k l).filter p = grp k (l.filter p) := by
  rw [grp_eq, grp_eq, sumG_filter hp l [] List.Pairwise.nil]
  rfl
theorem grp_grp (k : Int) (l : List Pr) : grp k (grp k l) = grp k l := by
  have := grp_part k l []
  rwa [List.append_nil, List.append_nil] at this
/-- those of slice n, of so many -/
def inSlice (many : Int) (n : Nat) (p : Pr) : Bool := decide (sliceB p.1 many = n)
theorem inSlice_key (many : Int) (n : Nat) : ByKey (inSlice many n) := fun a b h => by unfold inSlice; rw [h]
/-- a job's slices of pairs -/
def cutP (fold : Int) (early : Bool) (many : Nat) (l : List Pr) : List (List Pr) :=
  (List.range many).map fun n => if early = true then groups fold ((srt l).filter (inSlice many n)) else (srt l).filter (inSlice many n)
theorem cutP_get {fold : Int} {early : Bool} {many n : Nat} {l : List Pr} (h : n < many) : (cutP fold early many l)[n]? = some (if early = true then grp fold (l.filter (inSlice many n)) else srt (l.filter (inSlice many n))) := by
  unfold cutP
  rw [List.getElem?_map, List.getElem?_range h]
  simp only [Option.map_some, srt_filter (inSlice_key _ _)]
  rfl
end Go.Proofs.YtjkggijkccbcpaaDoor
/- What a job makes of a record: the pairs of its rules. -/
namespace Go.Proofs.YtjkggijkccbcpaaDoor
open Go.RowKit

/-- a rule: of each record or of each word, if that is so, a pair -/
structure RuleV where
  each : Bool
  when_ : Int
  cond : ExprV
  txt : ByteArray
  key : ExprV
  val : ExprV
def cut20 (k : ByteArray) : ByteArray := k.extract 0 (min k.size 20)
/-- is it so? -/
def ifR (r : RuleV) (line it : ByteArray) (ws : List ByteArray) : Bool := r.when_ == 0 || (decide (strE r.cond line it ws = r.txt) == decide (r.when_ = 1))
def pairR (r : RuleV) (kind : Int) (line it : ByteArray) (ws : List ByteArray) : Pr := (cut20 (strE r.key line it ws), first kind (intE r.val line it ws))
def madeR (r : RuleV) (kind : Int) (line : ByteArray) (ws : List ByteArray) (it : ByteArray) : Option Pr := if ifR r line it ws = true then some (pairR r kind line it ws) else none
def itsR (r : RuleV) (ws : List ByteArray) : List ByteArray := if r.each = true then ws else [⟨#[]⟩]
/-- what a rule makes -/
def pairsR (r : RuleV) (kind : Int) (line : ByteArray) : List Pr := (itsR r (wordsB line)).filterMap (madeR r kind line (wordsB line))
/-- what a job makes -/
def pairsJ (rs : List RuleV) (kind : Int) (line : ByteArray) : List Pr := rs.flatMap fun r => pairsR r kind line
theorem pairsJ_succ {rs : List RuleV} {i : Nat} {r : RuleV} (kind : Int) (line : ByteArray) (h : rs[i]? = some r) : pairsJ (rs.take (i + 1)) kind line = pairsJ (rs.take i) kind line ++ pairsR r kind line := by
  obtain ⟨hlt, hx⟩ := List.getElem?_eq_some_iff.1 h
  unfold pairsJ
  rw [List.take_succ_eq_append_getElem hlt, hx, List.flatMap_append]
  simp
theorem pairsJ_one (r : RuleV) (kind : Int) (line : ByteArray) : pairsJ [r] kind line = pairsR r kind line := by simp [pairsJ]
theorem itsR_len (r : RuleV) (ws : List ByteArray) : (itsR r ws).length ≤ ws.length + 1 := by
  unfold itsR
  split
  · omega
  · simp
theorem pairsR_len (r : RuleV) (kind : Int) (line : ByteArray) : (pairsR r kind line).length ≤ (wordsB line).length + 1 :=
  Nat.le_trans (List.length_filterMap_le _ _) (itsR_len r _)
theorem filterMap_parts {α β : Type} {f g h : α → Option β} (hp : ∀ x, (f x = h x ∧ g x = none) ∨ (f x = none ∧ g x = h x)) : ∀ (l : List α), (l.filterMap f ++ l.filterMap g).Perm (l.filterMap h)
  | [] => List.Perm.refl _
  | x :: l => by
    have ih := filterMap_parts hp l
    rcases hp x with ⟨h1, h2⟩ | ⟨h1, h2⟩
    · rw [List.filterMap_cons_none h2]
      cases hx : h x with
      | none => rw [hx] at h1; rw [List.filterMap_cons_none h1, List.filterMap_cons_none hx]; exact ih
      | some y => rw [hx] at h1; rw [List.filterMap_cons_some h1, List.filterMap_cons_some hx]; exact List.Perm.cons _ ih
    · rw [List.filterMap_cons_none h1]
      cases hx : h x with
      | none => rw [hx] at h2; rw [List.filterMap_cons_none h2, List.filterMap_cons_none hx]; exact ih
      | some y =>
        rw [hx] at h2
        rw [List.filterMap_cons_some h2, List.filterMap_cons_some hx]
        exact List.perm_middle.trans (List.Perm.cons _ ih)
/-- always is: if it is so, and if it is not -/
theorem when_parts (e : Bool) (c c2 : ExprV) (t t2 : ByteArray) (k v : ExprV) (kind : Int) (line : ByteArray) :
    (pairsR ⟨e, 1, c, t, k, v⟩ kind line ++ pairsR ⟨e, 2, c, t, k, v⟩ kind line).Perm (pairsR ⟨e, 0, c2, t2, k, v⟩ kind line) := by
  unfold pairsR
  refine filterMap_parts (fun x => ?_) _
  unfold madeR ifR
  by_cases h : strE c line x (wordsB line) = t
  · left; simp [h, pairR]
  · right; simp [h, pairR]
def leB (a b : ByteArray) : Prop := Op.bytesLess b.toList a.toList = false
theorem leB_anti {a b : ByteArray} (h : leB a b) (h2 : leB b a) : a = b := by
  rcases bl_tri a.toList b.toList with e | e | e
  · unfold leB at h2; rw [e] at h2; cases h2
  · exact tl_inj e
  · unfold leB at h; rw [e] at h; cases h
theorem sorted_unique : ∀ {l m : List ByteArray}, l.Pairwise leB → m.Pairwise leB → l.Perm m → l = m
  | [], m, _, _, h => (List.nil_perm.1 h).symm
  | a :: l, m, h1, h2, h => by
    rcases m with _ | ⟨b, m⟩
    · exact absurd h.length_eq (by simp)
    · have hab : a = b := by
        have ha : a ∈ b :: m := h.subset List.mem_cons_self
        have hb : b ∈ a :: l := h.symm.subset List.mem_cons_self
        rcases List.mem_cons.1 ha with e | e
        · exact e
        · rcases List.mem_cons.1 hb with e2 | e2
          · exact e2.symm
          · exact leB_anti ((List.pairwise_cons.1 h1).1 b e2) ((List.pairwise_cons.1 h2).1 a e)
      subst hab
      rw [sorted_unique (List.pairwise_cons.1 h1).2 (List.pairwise_cons.1 h2).2 (List.perm_cons a |>.1 h)]
theorem srt_keys {l m : List Pr} (h : l.Perm m) : (srt l).map (·.1) = (srt m).map (·.1) := by
  have key : ∀ l : List Pr, ((srt l).map (·.1)).Pairwise leB := fun l => by
    rw [List.pairwise_map]
    exact (srt_rise l).imp fun h => h
  exact sorted_unique (key l) (key m) ((((srt_perm l).trans h).trans (srt_perm m).symm).map _)
end Go.Proofs.YtjkggijkccbcpaaDoor
namespace Go.Proofs.YtjkggijkccbcpaaDoor
open Go.RowKit

/-- an empty condition -/
def blankE : ExprV → Bool
  | .mk k n s a => (k == 0) && ((n == 0) && (s.toList.isEmpty && a.isEmpty))
/-- what is wrong with a rule's condition -/
def condF (r : RuleV) : Int :=
  if r.when_ = 0 then (if r.txt.toList.isEmpty = true ∧ blankE r.cond = true then 0 else 3)
  else if r.when_ = 1 ∨ r.when_ = 2 then (if r.txt.size ≤ 20 ∧ decide (0 ≤ Lib.indexByte r.txt.data.toList 10) = false then faultE r.cond true r.each else 3)
  else 3
def ruleF (r : RuleV) : Int :=
  if condF r ≠ 0 then condF r else if faultE r.key true r.each ≠ 0 then faultE r.key true r.each else faultE r.val false r.each
def rulesF : List RuleV → Int
  | [] => 0
  | r :: l => if ruleF r ≠ 0 then ruleF r else rulesF l
def jobF (rs : List RuleV) (fold slices : Int) : Int :=
  if rs.length < 1 ∨ 4 < rs.length then 2 else if fold < 1 ∨ 4 < fold then 3 else if slices < 1 ∨ 4 < slices then 1 else rulesF rs
theorem condF_nn (r : RuleV) : 0 ≤ condF r := by
  unfold condF
  split
  · split <;> decide
  · split
    · split
      · exact faultE_nn _ _ _
      · decide
    · decide
theorem ruleF_nn (r : RuleV) : 0 ≤ ruleF r := by
  unfold ruleF
  split
  · exact condF_nn r
  · split
    · exact faultE_nn _ _ _
    · exact faultE_nn _ _ _
theorem rulesF_nn : ∀ l : List RuleV, 0 ≤ rulesF l
  | [] => Int.le_refl _
  | r :: l => by
    unfold rulesF
    split
    · exact ruleF_nn r
    · exact rulesF_nn l
theorem jobF_nn (rs : List RuleV) (fold slices : Int) : 0 ≤ jobF rs fold slices := by
  unfold jobF
  split
  · decide
  · split
    · decide
    · split
      · decide
      · exact rulesF_nn rs
theorem rulesF_drop {l : List RuleV} {i : Nat} {r : RuleV} (h : l[i]? = some r) : rulesF (l.drop i) = if ruleF r ≠ 0 then ruleF r else rulesF (l.drop (i + 1)) := by
  obtain ⟨hlt, hx⟩ := List.getElem?_eq_some_iff.1 h
  rw [List.drop_eq_getElem_cons hlt, hx]
  rfl
theorem rulesF_all : ∀ {l : List RuleV}, rulesF l = 0 → ∀ r ∈ l, ruleF r = 0
  | [], _, r, hr => by cases hr
  | a :: l, h, r, hr => by
    unfold rulesF at h
    split at h
    · rename_i h2; exact absurd h h2
    · rename_i h2
      rcases List.mem_cons.1 hr with rfl | hr
      · exact Classical.not_not.1 h2
      · exact rulesF_all h r hr
theorem rulesF_zero : ∀ {l : List RuleV}, (∀ r ∈ l, ruleF r = 0) → rulesF l = 0
  | [], _ => rfl
  | a :: l, h => by
    unfold rulesF
    rw [if_neg (by rw [h a List.mem_cons_self]; simp)]
    exact rulesF_zero fun r hr => h r (List.mem_cons_of_mem _ hr)
theorem fault_ok {e : ExprV} {text each : Bool} (h : faultE e text each = 0) : e.nodes ≤ 30 ∧ e.deep ≤ 5 ∧ shE e text each = true := by
  unfold faultE at h
  split at h
  · cases h
  · rename_i h1
    split at h
    · rename_i h2; exact ⟨by omega, by omega, h2⟩
    · cases h
/-- a rule that may be -/
structure RuleOk (r : RuleV) : Prop where
  key : r.key.nodes ≤ 30 ∧ r.key.deep ≤ 5 ∧ shE r.key true r.each = true
  val : r.val.nodes ≤ 30 ∧ r.val.deep ≤ 5 ∧ shE r.val false r.each = true
  cond : r.when_ ≠ 0 → r.cond.nodes ≤ 30 ∧ r.cond.deep ≤ 5 ∧ shE r.cond true r.each = true
  whn : r.when_ = 0 ∨ r.when_ = 1 ∨ r.when_ = 2
  txt : r.txt.size ≤ 20
theorem RuleOk.of {r : RuleV} (h : ruleF r = 0) : RuleOk r := by
  unfold ruleF at h
  split at h
  · rename_i h2; exact absurd h h2
  · rename_i h1
    split at h
    · rename_i h2; exact absurd h h2
    · rename_i h2
      have hc : condF r = 0 := Classical.not_not.1 h1
      have hk : faultE r.key true r.each = 0 := Classical.not_not.1 h2
      refine ⟨fault_ok hk, fault_ok h, fun hw => ?_, ?_, ?_⟩
      · unfold condF at hc
        rw [if_neg hw] at hc
        split at hc
        · split at hc
          · exact fault_ok hc
          · cases hc
        · cases hc
      · unfold condF at hc
        split at hc
        · left; assumption
        · split at hc
          · right; assumption
          · cases hc
      · unfold condF at hc
        split at hc
        · split at hc
          · rename_i h3
            have h4 : r.txt.toList = [] := List.isEmpty_iff.1 h3.1
            have h5 : r.txt.size = r.txt.toList.length := by rw [tl, tl_len]
            rw [h5, h4]; exact Nat.zero_le _
          · cases hc
        · split at hc
          · split at hc
            · rename_i h3; exact h3.1
            · cases hc
          · cases hc
theorem jobF_ok {rs : List RuleV} {fold slices : Int} (h : jobF rs fold slices = 0) : (1 ≤ rs.length ∧ rs.length ≤ 4) ∧ (1 ≤ fold ∧ fold ≤ 4) ∧ (1 ≤ slices ∧ slices ≤ 4) ∧ ∀ r ∈ rs, ruleF r = 0 := by
  unfold jobF at h
  split at h
  · cases h
  · split at h
    · cases h
    · split at h
      · cases h
      · exact ⟨by omega, by omega, by omega, rulesF_all h⟩
end Go.Proofs.YtjkggijkccbcpaaDoor
