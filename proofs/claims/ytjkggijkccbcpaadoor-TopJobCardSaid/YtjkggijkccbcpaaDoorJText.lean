/- The text of a job's parts: job.quote, job.text. -/
import Derived.Test.YtjkggijkccbcpaaDoorJTextLaw
import Derived.Test.YtjkggijkccbcpaaDoorPairSum
import Derived.Lib.QuietBelow
import Derived.StillTail
import Derived.Deep.RegionHeld3
import Derived.Test.YtjkggijkccbcpaaDoorExpr7
import Derived.Test.YtjkggijkccbcpaaDoorPair4
set_option linter.unusedSimpArgs false
set_option linter.unusedVariables false
/- The text of a job, and how it is read (plain): rules, jobs. -/
namespace Go.Proofs.YtjkggijkccbcpaaDoor
open Go.RowKit

theorem blank_eq {e : ExprV} (h : blankE e = true) : e = blankX := by
  obtain ⟨k, n, s, a⟩ := e
  simp only [blankE, Bool.and_eq_true, beq_iff_eq, List.isEmpty_iff] at h
  obtain ⟨rfl, rfl, hs, rfl⟩ := h
  unfold blankX
  rw [show s = tx [] from tl_inj (by rw [hs, tl, tx_list])]
/-- what a rule that may be is -/
theorem rule_parts {r : RuleV} (h : ruleF r = 0) : RuleOk r ∧ (r.when_ = 0 → r.cond = blankX ∧ r.txt = tx []) ∧ (10 : UInt8) ∉ r.txt.data.toList := by
  have hok := RuleOk.of h
  have hc : condF r = 0 := by
    unfold ruleF at h
    split at h
    · rename_i h2; exact absurd h h2
    · rename_i h2; exact Classical.not_not.1 h2
  refine ⟨hok, fun hw => ?_, ?_⟩
  · rw [condF, if_pos hw] at hc
    split at hc
    · rename_i h2
      exact ⟨blank_eq h2.2, tl_inj (by rw [List.isEmpty_iff.1 h2.1, tl, tx_list])⟩
    · cases hc
  · unfold condF at hc
    split at hc
    · split at hc
      · rename_i h2
        rw [← tl, List.isEmpty_iff.1 h2.1]; simp
      · cases hc
    · split at hc
      · split at hc
        · rename_i h2
          exact fun hm => by have h3 := h2.2; rw [decide_eq_false_iff_not] at h3; exact h3 (indexByte_mem hm)
        · cases hc
      · cases hc
theorem next_each (l : List UInt8) : nextR wEach (101 :: 97 :: 99 :: 104 :: 32 :: l) = true := rfl
theorem next_not {w : List UInt8} {a b : UInt8} {l : List UInt8} (h : a ≠ b) : nextR (a :: w) (b :: l) = false := by
  unfold nextR
  simp [List.isPrefixOf, h]
theorem whenT_head (r : RuleV) (l : List UInt8) : ∃ c t, whenT r ++ ([107, 101, 121, 32] ++ l) = c :: t ∧ c ≠ 101 := by
  unfold whenT
  split
  · exact ⟨_, _, rfl, by decide⟩
  · split
    · exact ⟨_, _, rfl, by decide⟩
    · exact ⟨_, _, rfl, by decide⟩
theorem condR_eq {r : RuleV} (h : ruleF r = 0) (l : List UInt8) : condR (whenT r ++ ([107, 101, 121, 32] ++ l)) = (r.cond, r.txt.data.toList, [107, 101, 121, 32] ++ l, false) ∧ whenR (whenT r ++ ([107, 101, 121, 32] ++ l)) = r.when_ := by
  obtain ⟨hok, hb, _⟩ := rule_parts h
  by_cases h0 : r.when_ = 0
  · obtain ⟨hc, ht⟩ := hb h0
    have e : whenT r ++ ([107, 101, 121, 32] ++ l) = 107 :: 101 :: 121 :: 32 :: l := by unfold whenT; rw [if_pos h0]; rfl
    rw [e]
    have n1 : nextR wSame (107 :: 101 :: 121 :: 32 :: l) = false := next_not (by decide)
    have n2 : nextR wOther (107 :: 101 :: 121 :: 32 :: l) = false := next_not (by decide)
    have hw : whenR (107 :: 101 :: 121 :: 32 :: l) = 0 := by simp [whenR, n1, n2]
    refine ⟨?_, by rw [hw, h0]⟩
    unfold condR
    rw [if_pos hw, hc, ht]
    simp [afterW, n1, n2, tx_list]
  · obtain ⟨c1, c2, c3⟩ := hok.cond h0
    have hx : readX 5 (textX r.cond ++ (32 :: (quoteL r.txt.data.toList ++ (32 :: ([107, 101, 121, 32] ++ l))))) false = (r.cond, quoteL r.txt.data.toList ++ (32 :: ([107, 101, 121, 32] ++ l)), false) := by
      rw [readX_text 5 _ true r.each _ c3 c2 (sep_cons _)]; rfl
    have hq : quotedR (quoteL r.txt.data.toList ++ (32 :: ([107, 101, 121, 32] ++ l))) = (r.txt.data.toList, [107, 101, 121, 32] ++ l, false) := by
      rw [quotedR_eq _ (sep_cons _)]; rfl
    rcases hok.whn with h1 | h1 | h1
    · exact absurd h1 h0
    · have e : whenT r ++ ([107, 101, 121, 32] ++ l) = 115 :: 97 :: 109 :: 101 :: 32 :: (textX r.cond ++ (32 :: (quoteL r.txt.data.toList ++ (32 :: ([107, 101, 121, 32] ++ l))))) := by
        unfold whenT; rw [if_neg h0, if_pos h1]; simp
      rw [e]
      have n1 : nextR wSame (115 :: 97 :: 109 :: 101 :: 32 :: (textX r.cond ++ (32 :: (quoteL r.txt.data.toList ++ (32 :: ([107, 101, 121, 32] ++ l)))))) = true := rfl
      have hw : whenR (115 :: 97 :: 109 :: 101 :: 32 :: (textX r.cond ++ (32 :: (quoteL r.txt.data.toList ++ (32 :: ([107, 101, 121, 32] ++ l)))))) = 1 := by unfold whenR; rw [if_pos n1]
      have ha : afterW (115 :: 97 :: 109 :: 101 :: 32 :: (textX r.cond ++ (32 :: (quoteL r.txt.data.toList ++ (32 :: ([107, 101, 121, 32] ++ l)))))) = textX r.cond ++ (32 :: (quoteL r.txt.data.toList ++ (32 :: ([107, 101, 121, 32] ++ l)))) := by unfold afterW; rw [if_pos n1]; rfl
      refine ⟨?_, by rw [hw, h1]⟩
      unfold condR
      rw [if_neg (by rw [hw]; decide), ha, hx]
      simp only [hq, Bool.or_self]
    · have e : whenT r ++ ([107, 101, 121, 32] ++ l) = 111 :: 116 :: 104 :: 101 :: 114 :: 32 :: (textX r.cond ++ (32 :: (quoteL r.txt.data.toList ++ (32 :: ([107, 101, 121, 32] ++ l))))) := by
        unfold whenT; rw [if_neg h0, if_neg (by omega)]; simp
      rw [e]
      have n0 : nextR wSame (111 :: 116 :: 104 :: 101 :: 114 :: 32 :: (textX r.cond ++ (32 :: (quoteL r.txt.data.toList ++ (32 :: ([107, 101, 121, 32] ++ l)))))) = false := next_not (by decide)
      have n1 : nextR wOther (111 :: 116 :: 104 :: 101 :: 114 :: 32 :: (textX r.cond ++ (32 :: (quoteL r.txt.data.toList ++ (32 :: ([107, 101, 121, 32] ++ l)))))) = true := rfl
      have hw : whenR (111 :: 116 :: 104 :: 101 :: 114 :: 32 :: (textX r.cond ++ (32 :: (quoteL r.txt.data.toList ++ (32 :: ([107, 101, 121, 32] ++ l)))))) = 2 := by unfold whenR; rw [if_neg (by rw [n0]; decide), if_pos n1]
      have ha : afterW (111 :: 116 :: 104 :: 101 :: 114 :: 32 :: (textX r.cond ++ (32 :: (quoteL r.txt.data.toList ++ (32 :: ([107, 101, 121, 32] ++ l)))))) = textX r.cond ++ (32 :: (quoteL r.txt.data.toList ++ (32 :: ([107, 101, 121, 32] ++ l)))) := by unfold afterW; rw [if_neg (by rw [n0]; decide), if_pos n1]; rfl
      refine ⟨?_, by rw [hw, h1]⟩
      unfold condR
      rw [if_neg (by rw [hw]; decide), ha, hx]
      simp only [hq, Bool.or_self]
/-- a rule's line is read as it -/
theorem readRule_text {r : RuleV} (h : ruleF r = 0) : readRule (ruleT r) = (r, false) := by
  obtain ⟨hok, _, _⟩ := rule_parts h
  obtain ⟨k1, k2, k3⟩ := hok.key
  obtain ⟨v1, v2, v3⟩ := hok.val
  have hE : nextR wEach (ruleT r) = r.each ∧ afterR wEach (ruleT r) = whenT r ++ ([107, 101, 121, 32] ++ (textX r.key ++ ([32, 118, 97, 108, 32] ++ textX r.val))) := by
    unfold ruleT
    cases he : r.each with
    | true =>
      have n1 : nextR wEach (eachT true ++ (whenT r ++ ([107, 101, 121, 32] ++ (textX r.key ++ ([32, 118, 97, 108, 32] ++ textX r.val))))) = true := next_each _
      refine ⟨n1, ?_⟩
      unfold afterR
      rw [if_pos n1]; rfl
    | false =>
      obtain ⟨c, t, e, hc⟩ := whenT_head r (textX r.key ++ ([32, 118, 97, 108, 32] ++ textX r.val))
      have e2 : eachT false ++ (whenT r ++ ([107, 101, 121, 32] ++ (textX r.key ++ ([32, 118, 97, 108, 32] ++ textX r.val)))) = c :: t := by rw [e]; rfl
      have n1 : nextR wEach (c :: t) = false := next_not (fun h => hc h.symm)
      rw [e2]
      refine ⟨n1, ?_⟩
      unfold afterR
      rw [if_neg (by rw [n1]; decide), ← e]
  obtain ⟨hc, hw⟩ := condR_eq h (textX r.key ++ ([32, 118, 97, 108, 32] ++ textX r.val))
  have hK : keyR ([107, 101, 121, 32] ++ (textX r.key ++ ([32, 118, 97, 108, 32] ++ textX r.val))) false = (r.key, [118, 97, 108, 32] ++ textX r.val, false) := by
    have n1 : nextR wKey ([107, 101, 121, 32] ++ (textX r.key ++ ([32, 118, 97, 108, 32] ++ textX r.val))) = true := rfl
    unfold keyR afterR
    rw [n1]
    have e : ([107, 101, 121, 32] ++ (textX r.key ++ ([32, 118, 97, 108, 32] ++ textX r.val))).drop (wKey.length + 1) = textX r.key ++ (32 :: ([118, 97, 108, 32] ++ textX r.val)) := rfl
    rw [if_pos rfl, e]
    show readX 5 _ false = _
    rw [readX_text 5 _ true r.each _ k3 k2 (sep_cons _)]; rfl
  have hV : valR ([118, 97, 108, 32] ++ textX r.val) false = (r.val, [], false) := by
    have n1 : nextR wVal ([118, 97, 108, 32] ++ textX r.val) = true := rfl
    unfold valR afterR
    rw [n1]
    have e : ([118, 97, 108, 32] ++ textX r.val).drop (wVal.length + 1) = textX r.val ++ [] := by rw [List.append_nil]; rfl
    rw [if_pos rfl, e]
    show readX 5 _ false = _
    rw [readX_text 5 _ false r.each _ v3 v2 (.inl rfl)]; rfl
  unfold readRule
  simp only [hE.1, hE.2, hc, hw, hK, hV, tx_of]
  rfl
theorem ruleT_10 {r : RuleV} (h : ruleF r = 0) : (10 : UInt8) ∉ ruleT r := by
  obtain ⟨hok, hb, ht⟩ := rule_parts h
  obtain ⟨k1, k2, k3⟩ := hok.key
  obtain ⟨v1, v2, v3⟩ := hok.val
  have hx := textX_10 5 _ _ _ k3 k2
  have hy := textX_10 5 _ _ _ v3 v2
  have hw : (10 : UInt8) ∉ whenT r := by
    unfold whenT
    split
    · simp
    · rename_i h0
      obtain ⟨c1, c2, c3⟩ := hok.cond h0
      have hz := textX_10 5 _ _ _ c3 c2
      have hq := quote_10 ht
      simp only [List.mem_append, List.mem_cons, not_or]
      refine ⟨?_, hz, by decide, hq, by decide, by simp⟩
      split <;> decide
  unfold ruleT
  simp only [List.mem_append, not_or]
  refine ⟨?_, hw, by decide, hx, by decide, hy⟩
  unfold eachT
  split <;> decide
/-- lines, an end behind each -/
def endL (ls : List (List UInt8)) : List UInt8 := ls.flatMap fun l => l ++ [10]
theorem split_end : ∀ (ls : List (List UInt8)) (l : List UInt8), (∀ x ∈ ls, (10 : UInt8) ∉ x) → (10 : UInt8) ∉ l → splitAt 10 (endL ls ++ l) = ls ++ [l]
  | [], l, _, hl => by
    have e : endL [] ++ l = l := rfl
    rw [e, splitAt_no hl]; rfl
  | x :: ls, l, h, hl => by
    have e : endL (x :: ls) ++ l = x ++ 10 :: (endL ls ++ l) := by simp [endL]
    rw [e, splitAt_yes (h x List.mem_cons_self), split_end ls l (fun y hy => h y (List.mem_cons_of_mem _ hy)) hl]
    rfl
theorem lines_end (ls : List (List UInt8)) (l : List UInt8) (h : ∀ x ∈ ls, (10 : UInt8) ∉ x) (hl : (10 : UInt8) ∉ l) : linesR (endL (ls ++ [l])) = ls ++ [l] := by
  have e : endL (ls ++ [l]) = (endL ls ++ l) ++ [10] := by simp [endL]
  unfold linesR trim10
  rw [e, List.getLast?_concat, if_pos rfl, List.dropLast_concat]
  exact split_end ls l h hl
theorem jobT_end (rs : List RuleV) (fold slices : Int) (early : Bool) : jobT rs fold slices early = endL (headT fold slices early :: rs.map ruleT) := by
  unfold jobT endL
  rw [List.flatMap_cons, List.flatMap_map]
  simp
theorem foldK_not (k : Int) : (32 : UInt8) ∉ foldK k ∧ (10 : UInt8) ∉ foldK k := by
  unfold foldK
  constructor <;> (repeat' split) <;> decide
theorem foldN_fold {k : Int} (h : 1 ≤ k ∧ k ≤ 4) : foldN (foldK k) = k := by
  have h1 : k = 1 ∨ k = 2 ∨ k = 3 ∨ k = 4 := by omega
  rcases h1 with rfl | rfl | rfl | rfl <;> decide
theorem headT_10 (fold slices : Int) (early : Bool) : (10 : UInt8) ∉ headT fold slices early := by
  unfold headT
  simp only [List.mem_append, List.mem_cons, not_or]
  refine ⟨(foldK_not fold).2, by decide, (itoa_32 slices).2, ?_⟩
  split <;> decide
theorem headR_text {fold slices : Int} (early : Bool) (hf : 1 ≤ fold ∧ fold ≤ 4) (hs : 1 ≤ slices ∧ slices ≤ 4) : headR (headT fold slices early) = (fold, slices, early, false) := by
  obtain ⟨n1, n2⟩ := numOk_itoa (v := slices) (by omega)
  have h1 : wordR (headT fold slices early) = (foldK fold, Lib.itoa slices ++ (if early = true then [32, 101, 97, 114, 108, 121] else [])) := by
    unfold headT
    rw [wordR_eq (foldK_not fold).1 (sep_cons _)]; rfl
  have h2 : wordR (Lib.itoa slices ++ (if early = true then [32, 101, 97, 114, 108, 121] else [])) = (Lib.itoa slices, if early = true then earlyW else []) := by
    cases early
    · have e := wordR_eq (itoa_32 slices).1 (R := []) (.inl rfl)
      simpa using e
    · have e := wordR_eq (itoa_32 slices).1 (R := [32, 101, 97, 114, 108, 121]) (sep_cons _)
      simpa [earlyW] using e
  unfold headR
  simp only [h1, h2, foldN_fold hf, n1, n2]
  cases early <;> rfl
/-- what is written is read -/
theorem readJob_text {rs : List RuleV} {fold slices : Int} {early : Bool} (h : jobF rs fold slices = 0) : readJob (jobT rs fold slices early) = (rs, fold, slices, early, false) := by
  obtain ⟨⟨hl, _⟩, hf, hs, hr⟩ := jobF_ok h
  have hl2 : linesR (jobT rs fold slices early) = headT fold slices early :: rs.map ruleT := by
    rw [jobT_end]
    obtain ⟨ls, l, e⟩ : ∃ ls l, headT fold slices early :: rs.map ruleT = ls ++ [l] := ⟨_, _, (List.dropLast_concat_getLast (by simp)).symm⟩
    have hall : ∀ x ∈ headT fold slices early :: rs.map ruleT, (10 : UInt8) ∉ x := by
      intro x hx
      rcases List.mem_cons.1 hx with rfl | hx
      · exact headT_10 _ _ _
      · obtain ⟨r, hr1, rfl⟩ := List.mem_map.1 hx
        exact ruleT_10 (hr r hr1)
    rw [e] at hall ⊢
    exact lines_end ls l (fun x hx => hall x (List.mem_append_left _ hx)) (hall l (by simp))
  unfold readJob
  rw [hl2]
  simp only [List.drop_succ_cons, List.drop_zero, List.headD_cons, headR_text early hf hs, List.map_map, List.any_map]
  have e1 : (rs.map ((fun l => (readRule l).1) ∘ ruleT)) = rs := by
    conv => rhs; rw [← List.map_id rs]
    exact List.map_congr_left fun r hr1 => by simp [readRule_text (hr r hr1)]
  have e2 : rs.any ((fun l => (readRule l).2) ∘ ruleT) = false := by
    rw [List.any_eq_false]
    intro r hr1
    simp [readRule_text (hr r hr1)]
  rw [e1, e2]
  rfl
end Go.Proofs.YtjkggijkccbcpaaDoor
/- A region that draws its order: reads and calls whose values do not hang on the world, then a tail in one forced order: walked once. Over any program. -/
namespace Go.Proofs.YtjkggijkccbcpaaDoor
open Go.RowKit

section
variable {P : Program} {ops : Array Oper} {md : Region.Mode} {C : World → Prop}
def wpAnyQL (P : Program) (md : Region.Mode) (ops : Array Oper) (C : World → Prop) (n : Nat) (L : Array Bool → Act → Prop) : Nat → Array Bool → Act → Prop
  | 0, listed, a => L listed a
  | f + 1, listed, a =>
    Region.ready md ops listed ≠ [] ∧ ∀ i ∈ Region.ready md ops listed, i < n ∧ qOp P ops C i (wpAnyQL P md ops C n L f (listed.setIfInBounds i true)) a
theorem wpAny_of_headQ {n g : Nat} {L : Array Bool → Act → Prop} {Q' : Exit → Act → World → Prop} (hL : ∀ listed a w, C w → L listed a → wpAny P md ops Q' g listed a w) :
    ∀ (f : Nat) (listed : Array Bool) (a : Act) (w : World), C w → wpAnyQL P md ops C n L f listed a → wpAny P md ops Q' (f + g) listed a w
  | 0, listed, a, w, hw, h => by rw [Nat.zero_add]; exact hL _ _ _ hw h
  | f + 1, listed, a, w, hw, h => by
    rw [show f + 1 + g = (f + g) + 1 by omega]
    exact ⟨fun h0 => absurd h0 h.1, fun i hi => wpOp_of_qOp hw (fun a' w' hw' h' => wpAny_of_headQ hL f _ a' w' hw' h') (h.2 i hi).2⟩
theorem wpAnyQL_first {n i : Nat} {oi : Oper} {v : Value} {L : Array Bool → Act → Prop} (hi : ops[i]? = some oi) (hsel : ∀ (j : Nat) (o : Oper) cs b, ops[j]? = some o → o.op ≠ .select cs b)
    (hs : Region.sinkB md ops n = true) (hc : Region.chainB md ops n = true) (hn : n < ops.size) (hin : i < n)
    (hdone : ∀ listed a, L listed a → ∀ j ∈ Region.ready md ops listed, n ≤ j) :
    ∀ (f : Nat) (listed : Array Bool) (a : Act), HeadInv md ops n listed →
      (∀ j oj, ops[j]? = some oj → j ≠ i → listed.getD j true = false → (∀ e ∈ oj.after, Region.binds md e = true → e.on ≠ i) → oi.apart ops oj = true) →
      i ∈ Region.ready md ops listed → YieldsIn P ops C oi v a →
      wpAnyQL P md ops C n L f (listed.setIfInBounds i true) (a.put oi.dst v) → wpAnyQL P md ops C n L (f + 1) listed a := by
  intro f
  induction f with
  | zero =>
    intro listed a inv _ hr hy H
    have hun := (mem_ready.1 hr).1
    refine ⟨fun h => (by rw [h] at hr; cases hr), fun j hj => ?_⟩
    have hjn : j < n := by
      rcases Nat.lt_or_ge j n with h | h
      · exact h
      · exact absurd hj (tail_waits hs hc hn inv _ i rfl hin hun j h)
    refine ⟨hjn, ?_⟩
    by_cases hji : j = i
    · subst hji; exact hy.qOp hi H
    · have := hdone _ _ H j (ready_mono hj hji)
      omega
  | succ f ih =>
    intro listed a inv hfree hr hy H
    have hun := (mem_ready.1 hr).1
    refine ⟨fun h => (by rw [h] at hr; cases hr), fun j hj => ?_⟩
    have hjn : j < n := by
      rcases Nat.lt_or_ge j n with h | h
      · exact h
      · exact absurd hj (tail_waits hs hc hn inv _ i rfl hin hun j h)
    refine ⟨hjn, ?_⟩
    by_cases hji : j = i
    · subst hji; exact hy.qOp hi H
    · have h1 := (H.2 j (ready_mono hj hji)).2
      obtain ⟨hjun, oj, hoj, hall⟩ := mem_ready.1 hj
      have hnot : ∀ e ∈ oj.after, Region.binds md e = true → e.on ≠ i := fun e he hb heq => by
        have h1 := hall e he hb
        rw [heq, getD_both hun] at h1
        cases h1
      have h2 := qOp_put hoj (hfree j oj hoj hji hjun hnot) (fun cs b => hsel i oi cs b hi) (fun cs b => hsel j oj cs b hoj) hy h1
      have hfree' : ∀ k ok, ops[k]? = some ok → k ≠ i → (listed.setIfInBounds j true).getD k true = false →
          (∀ e ∈ ok.after, Region.binds md e = true → e.on ≠ i) → oi.apart ops ok = true := fun k ok hk hki hun hno => by
        refine hfree k ok hk hki ?_ hno
        by_cases hjk : j = k
        · subst hjk; exact hjun
        · rw [getD_set_ne true hjk] at hun; exact hun
      refine qOp_mono (fun a' h3 => ih (listed.setIfInBounds j true) a' (inv.set hj hjn) hfree' (ready_mono hr (Ne.symm hji)) h3.1 ?_) h2
      rw [Array.setIfInBounds_comm _ _ hji]
      exact h3.2
theorem wpAnyQL_lex {n g : Nat} {Lq : Act → Prop} (hsel : Region.noSelect ops = true) (hs : Region.sinkB md ops n = true) (hc : Region.chainB md ops n = true) (hn : n < ops.size) :
    ∀ (l : List Oper) (k : Nat) (listed : Array Bool) (a : Act), (∀ j, j < l.length → l[j]? = ops[k + j]?) → k + l.length = n → HeadInv md ops n listed →
    Region.lexHead md ops g l.length k listed = true → wpQuiet P ops C Lq l a →
    wpAnyQL P md ops C n (fun listed' a' => Region.seqB md ops g n listed' = true ∧ Lq a') l.length listed a
  | [], k, listed, a, _, hk, _, hB, h => by
    have : k = n := by simpa using hk
    subst this
    exact ⟨by simpa [Region.lexHead] using hB, h⟩
  | o :: l, k, listed, a, hl, hk, inv, hB, h => by
    have h0 : ops[k]? = some o := by simpa using (hl 0 (by simp)).symm
    simp only [List.length_cons, Region.lexHead, Bool.and_eq_true] at hB
    obtain ⟨⟨hr, hf⟩, hB'⟩ := hB
    have hkn : k < n := by simp only [List.length_cons] at hk; omega
    have hr' : k ∈ Region.ready md ops listed := by simpa using hr
    have hst : qOp P ops C k (wpQuiet P ops C Lq l) a := by unfold qOp; simp only [h0]; exact h
    obtain ⟨v, hy, hK⟩ := yieldsIn_of_qOp h0 hst
    exact wpAnyQL_first h0 (Region.noSelect_spec hsel) hs hc hn hkn (fun listed' a' hL => seqB_ready hL.1) l.length listed a inv (Region.free_spec h0 hf) hr' hy
      (wpAnyQL_lex hsel hs hc hn l (k + 1) _ _ (fun j hj => by have := hl (j + 1) (by simp; omega); simpa [Nat.add_assoc, Nat.add_comm 1 j] using this) (by simp only [List.length_cons] at hk; omega) (inv.set hr' hkn) hB' hK)
/-- the first n operations are quiet in a class of worlds; what stands behind them comes in one order -/
theorem wp_region_quiet_tail {id : Nat} {Q : Exit → Act → World → Prop} {a : Act} {w : World} {l : List Oper} (n : Nat) (hm : P.follows .mixedOrders = true) (hB : Region.lexTailB .any l.toArray n = true) (hC : C { w with drawn := w.drawn + 1 })
    (h : wpQuiet P l.toArray C (fun a' => ∀ w', C w' → wpList P l.toArray Q (l.drop n) a' w') (l.take n) a) : (Code.region id l.toArray true).wp P Q a w := by
  simp only [Region.lexTailB, Bool.and_eq_true, decide_eq_true_eq] at hB
  obtain ⟨⟨⟨⟨hsel, hn⟩, hs⟩, hc⟩, hlex⟩ := hB
  have hn' : n < l.length := by simpa using hn
  have htl : (l.take n).length = n := by simp; omega
  have hdl : (l.drop n).length = l.toArray.size - n := by simp
  have inv0 : HeadInv .any l.toArray n (Array.replicate l.toArray.size false) :=
    ⟨by simp, fun j oj _ hl => (by rw [getD_replicate_false] at hl; cases hl), fun t _ ht => getD_in (by simpa using ht) (getD_replicate_false _ _)⟩
  have H := wpAnyQL_lex (md := .any) (C := C) (g := l.toArray.size - n) hsel hs hc hn (l.take n) 0 _ a (fun j hj => by
    have hj' : j < n := by rw [htl] at hj; exact hj
    simp [hj']) (by simpa using htl) inv0 (by rw [htl]; exact hlex) h
  refine wp_region_any hm ?_
  have := wpAny_of_headQ (Q' := Q) (g := l.toArray.size - n) (fun listed a' w' hw' hL => by
    have := wpAny_of_seq (md := .any) (Q' := Q) (l.drop n) n listed a' w' (fun j => by simp [List.getElem?_drop]) (by rw [hdl]; exact hL.1) (hL.2 w' hw')
    rwa [hdl] at this) _ _ _ _ hC H
  rw [htl, show n + (l.toArray.size - n) = l.toArray.size by omega] at this
  exact this
/-- the same at the worlds that lie above w -/
theorem wp_region_below_tail {id : Nat} {Q : Exit → Act → World → Prop} {a : Act} {w : World} {l : List Oper} (n : Nat) (hm : P.follows .mixedOrders = true) (hB : Region.lexTailB .any l.toArray n = true)
    (h : wpQuiet P l.toArray (fun w' => ∃ p : Regrown, w' = Go.Sort.grow (redrawn w p.d) p.os) (fun a' => ∀ w', (∃ p : Regrown, w' = Go.Sort.grow (redrawn w p.d) p.os) → wpList P l.toArray Q (l.drop n) a' w') (l.take n) a) : (Code.region id l.toArray true).wp P Q a w :=
  wp_region_quiet_tail (C := fun w' => ∃ p : Regrown, w' = Go.Sort.grow (redrawn w p.d) p.os) n hm hB ⟨⟨w.drawn + 1, #[]⟩, by rw [Go.Sort.grow_empty]; rfl⟩ h
/-! the same where some that hang on no world ('floaters') have been taken first -/
def seqI (md : Region.Mode) (ops : Array Oper) : List Nat → Array Bool → Bool
  | [], listed => (Region.ready md ops listed).isEmpty
  | k :: ks, listed => decide (Region.ready md ops listed = [k]) && seqI md ops ks (listed.setIfInBounds k true)
def lexI (md : Region.Mode) (ops : Array Oper) (ts : List Nat) : List Nat → Array Bool → Bool
  | [], listed => seqI md ops ts listed
  | k :: ks, listed => (Region.ready md ops listed).contains k && Region.free md ops listed k && lexI md ops ts ks (listed.setIfInBounds k true)
def sinkI (md : Region.Mode) (ops : Array Oper) (n : Nat) (l0 : Array Bool) : Bool :=
  (List.range n).all fun i => l0.getD i false || (List.range (n + 1)).any fun j => decide (i < j) && Region.waitsFor md ops j i
def chainI (md : Region.Mode) (ops : Array Oper) (n : Nat) (l0 : Array Bool) : Bool :=
  (List.range ops.size).all fun t => decide (t ≤ n) || (l0.getD t false || (List.range t).any fun u => decide (n ≤ u) && (!l0.getD u false && Region.waitsFor md ops t u))
def closedI (md : Region.Mode) (ops : Array Oper) (l0 : Array Bool) : Bool :=
  (List.range ops.size).all fun j => !l0.getD j false || ((ops[j]?).map fun o => o.after.all fun e => !Region.binds md e || l0.getD e.on false).getD true
structure HeadI (md : Region.Mode) (ops : Array Oper) (n : Nat) (l0 listed : Array Bool) : Prop where
  size : listed.size = ops.size
  closed : ∀ j oj, ops[j]? = some oj → listed.getD j false = true → ∀ e ∈ oj.after, Region.binds md e = true → listed.getD e.on false = true
  tail : ∀ t, n ≤ t → t < ops.size → l0.getD t false = false → listed.getD t true = false
  more : ∀ t, l0.getD t false = true → listed.getD t false = true
theorem HeadI.set {n i : Nat} {l0 listed : Array Bool} (inv : HeadI md ops n l0 listed) (hi : i ∈ Region.ready md ops listed) (hin : i < n) : HeadI md ops n l0 (listed.setIfInBounds i true) := by
  obtain ⟨_, oi, hoi, hall⟩ := mem_ready.1 hi
  refine ⟨by simp [inv.size], fun j oj hj hl e he hb => ?_, fun t ht ht' h0 => by rw [getD_set_ne true (by omega)]; exact inv.tail t ht ht' h0, fun t h0 => getD_set_true (inv.more t h0)⟩
  by_cases hij : i = j
  · subst hij
    have : oj = oi := Option.some.inj (hj.symm.trans hoi)
    subst this
    exact getD_set_true (hall e he hb)
  · rw [getD_set_ne false hij] at hl
    exact getD_set_true (inv.closed j oj hj hl e he hb)
theorem tailI_waits {n : Nat} {l0 listed : Array Bool} (hs : sinkI md ops n l0 = true) (hc : chainI md ops n l0 = true) (hn : n < ops.size) (hn0 : l0.getD n false = false) (inv : HeadI md ops n l0 listed) :
    ∀ (d i : Nat), n - i = d → i < n → listed.getD i true = false → ∀ t, n ≤ t → t ∉ Region.ready md ops listed := by
  intro d
  induction d using Nat.strongRecOn with
  | _ d ih =>
    intro i hd hi hun t ht hr
    obtain ⟨htun, ot, hot, hall⟩ := mem_ready.1 hr
    have htlt : t < ops.size := (Array.getElem?_eq_some_iff.1 hot).1
    by_cases htn : t = n
    · subst htn
      have h1 := List.all_eq_true.1 hs i (List.mem_range.2 hi)
      rw [Bool.or_eq_true] at h1
      rcases h1 with h1 | h1
      · have := inv.more i h1
        rw [getD_both hun] at this
        cases this
      obtain ⟨j, hj, hj2⟩ := List.any_eq_true.1 h1
      simp only [Bool.and_eq_true, decide_eq_true_eq] at hj2
      obtain ⟨oj, hoj, e, he, hb, hon⟩ := Region.waitsFor_spec hj2.2
      have hjle : j ≤ t := by have := List.mem_range.1 hj; omega
      by_cases hjt : j = t
      · subst hjt
        have : oj = ot := Option.some.inj (hoj.symm.trans hot)
        subst this
        have h2 := hall e he hb
        rw [hon, getD_both hun] at h2
        cases h2
      · cases hl : listed.getD j false with
        | true =>
          have h2 := inv.closed j oj hoj hl e he hb
          rw [hon, getD_both hun] at h2
          cases h2
        | false =>
          have hjs : j < listed.size := by rw [inv.size]; omega
          exact ih (t - j) (by omega) j rfl (by omega) (getD_in hjs hl) t (Nat.le_refl _) hr
    · have h1 := List.all_eq_true.1 hc t (List.mem_range.2 htlt)
      simp only [Bool.or_eq_true, decide_eq_true_eq] at h1
      rcases h1 with h1 | h1 | h1
      · omega
      · have := inv.more t h1
        rw [getD_both htun] at this
        cases this
      · obtain ⟨u, hu, hu2⟩ := List.any_eq_true.1 h1
        simp only [Bool.and_eq_true, decide_eq_true_eq, Bool.not_eq_true'] at hu2
        obtain ⟨hnu, hu0, hw⟩ := hu2
        obtain ⟨o', ho', e, he, hb, hon⟩ := Region.waitsFor_spec hw
        have : o' = ot := Option.some.inj (ho'.symm.trans hot)
        subst this
        have h2 := hall e he hb
        rw [hon, getD_both (inv.tail u hnu (by have := List.mem_range.1 hu; omega) hu0)] at h2
        cases h2
theorem wpAnyQI_first {n i : Nat} {oi : Oper} {v : Value} {l0 : Array Bool} {L : Array Bool → Act → Prop} (hi : ops[i]? = some oi) (hsel : ∀ (j : Nat) (o : Oper) cs b, ops[j]? = some o → o.op ≠ .select cs b)
    (hs : sinkI md ops n l0 = true) (hc : chainI md ops n l0 = true) (hn : n < ops.size) (hn0 : l0.getD n false = false) (hin : i < n)
    (hdone : ∀ listed a, L listed a → ∀ j ∈ Region.ready md ops listed, n ≤ j) :
    ∀ (f : Nat) (listed : Array Bool) (a : Act), HeadI md ops n l0 listed →
      (∀ j oj, ops[j]? = some oj → j ≠ i → listed.getD j true = false → (∀ e ∈ oj.after, Region.binds md e = true → e.on ≠ i) → oi.apart ops oj = true) →
      i ∈ Region.ready md ops listed → YieldsIn P ops C oi v a →
      wpAnyQL P md ops C n L f (listed.setIfInBounds i true) (a.put oi.dst v) → wpAnyQL P md ops C n L (f + 1) listed a := by
  intro f
  induction f with
  | zero =>
    intro listed a inv _ hr hy H
    have hun := (mem_ready.1 hr).1
    refine ⟨fun h => (by rw [h] at hr; cases hr), fun j hj => ?_⟩
    have hjn : j < n := by
      rcases Nat.lt_or_ge j n with h | h
      · exact h
      · exact absurd hj (tailI_waits hs hc hn hn0 inv _ i rfl hin hun j h)
    refine ⟨hjn, ?_⟩
    by_cases hji : j = i
    · subst hji; exact hy.qOp hi H
    · have := hdone _ _ H j (ready_mono hj hji)
      omega
  | succ f ih =>
    intro listed a inv hfree hr hy H
    have hun := (mem_ready.1 hr).1
    refine ⟨fun h => (by rw [h] at hr; cases hr), fun j hj => ?_⟩
    have hjn : j < n := by
      rcases Nat.lt_or_ge j n with h | h
      · exact h
      · exact absurd hj (tailI_waits hs hc hn hn0 inv _ i rfl hin hun j h)
    refine ⟨hjn, ?_⟩
    by_cases hji : j = i
    · subst hji; exact hy.qOp hi H
    · have h1 := (H.2 j (ready_mono hj hji)).2
      obtain ⟨hjun, oj, hoj, hall⟩ := mem_ready.1 hj
      have hnot : ∀ e ∈ oj.after, Region.binds md e = true → e.on ≠ i := fun e he hb heq => by
        have h1 := hall e he hb
        rw [heq, getD_both hun] at h1
        cases h1
      have h2 := qOp_put hoj (hfree j oj hoj hji hjun hnot) (fun cs b => hsel i oi cs b hi) (fun cs b => hsel j oj cs b hoj) hy h1
      have hfree' : ∀ k ok, ops[k]? = some ok → k ≠ i → (listed.setIfInBounds j true).getD k true = false →
          (∀ e ∈ ok.after, Region.binds md e = true → e.on ≠ i) → oi.apart ops ok = true := fun k ok hk hki hun hno => by
        refine hfree k ok hk hki ?_ hno
        by_cases hjk : j = k
        · subst hjk; exact hjun
        · rw [getD_set_ne true hjk] at hun; exact hun
      refine qOp_mono (fun a' h3 => ih (listed.setIfInBounds j true) a' (inv.set hj hjn) hfree' (ready_mono hr (Ne.symm hji)) h3.1 ?_) h2
      rw [Array.setIfInBounds_comm _ _ hji]
      exact h3.2
theorem seqI_ready {n : Nat} {ts : List Nat} {listed : Array Bool} (h : seqI md ops ts listed = true) (ht : ∀ t ∈ ts, n ≤ t) : ∀ j ∈ Region.ready md ops listed, n ≤ j := by
  cases ts with
  | nil => intro j hj; simp only [seqI, List.isEmpty_iff] at h; rw [h] at hj; cases hj
  | cons t ts =>
    intro j hj
    simp only [seqI, Bool.and_eq_true, decide_eq_true_eq] at h
    rw [h.1] at hj
    obtain rfl : j = t := by simpa using hj
    exact ht _ List.mem_cons_self
theorem wpAnyQI_lex {n : Nat} {ts : List Nat} {l0 : Array Bool} {Lq : Act → Prop} (hsel : Region.noSelect ops = true) (hs : sinkI md ops n l0 = true) (hc : chainI md ops n l0 = true) (hn : n < ops.size) (hn0 : l0.getD n false = false) (ht : ∀ t ∈ ts, n ≤ t) :
    ∀ (hs' : List Nat) (l : List Oper) (listed : Array Bool) (a : Act), hs'.map (fun i => ops[i]?) = l.map some → (∀ i ∈ hs', i < n) → HeadI md ops n l0 listed →
    lexI md ops ts hs' listed = true → wpQuiet P ops C Lq l a →
    wpAnyQL P md ops C n (fun listed' a' => seqI md ops ts listed' = true ∧ Lq a') hs'.length listed a
  | [], [], listed, a, _, _, _, hB, h => ⟨by simpa [lexI] using hB, h⟩
  | [], _ :: _, _, _, hm, _, _, _, _ => by simp at hm
  | _ :: _, [], _, _, hm, _, _, _, _ => by simp at hm
  | k :: ks, o :: l, listed, a, hm, hlt, inv, hB, h => by
    simp only [List.map_cons, List.cons.injEq] at hm
    have h0 : ops[k]? = some o := hm.1
    simp only [lexI, Bool.and_eq_true] at hB
    obtain ⟨⟨hr, hf⟩, hB'⟩ := hB
    have hkn : k < n := hlt k List.mem_cons_self
    have hr' : k ∈ Region.ready md ops listed := by simpa using hr
    have hst : qOp P ops C k (wpQuiet P ops C Lq l) a := by unfold qOp; simp only [h0]; exact h
    obtain ⟨v, hy, hK⟩ := yieldsIn_of_qOp h0 hst
    exact wpAnyQI_first h0 (Region.noSelect_spec hsel) hs hc hn hn0 hkn (fun listed' a' hL => seqI_ready hL.1 ht) ks.length listed a inv (Region.free_spec h0 hf) hr' hy
      (wpAnyQI_lex hsel hs hc hn hn0 ht ks l _ _ hm.2 (fun i hi => hlt i (List.mem_cons_of_mem _ hi)) (inv.set hr' hkn) hB' hK)
theorem wpAny_of_seqI {Q' : Exit → Act → World → Prop} : ∀ (ts : List Nat) (l : List Oper) (listed : Array Bool) (a : Act) (w : World), ts.map (fun i => ops[i]?) = l.map some →
    seqI md ops ts listed = true → wpList P ops Q' l a w → wpAny P md ops Q' ts.length listed a w
  | [], [], _, _, _, _, hB, h => ⟨by simpa [seqI] using hB, h⟩
  | [], _ :: _, _, _, _, hm, _, _ => by simp at hm
  | _ :: _, [], _, _, _, hm, _, _ => by simp at hm
  | t :: ts, o :: l, listed, a, w, hm, hB, h => by
    simp only [List.map_cons, List.cons.injEq] at hm
    have h0 : ops[t]? = some o := hm.1
    simp only [seqI, Bool.and_eq_true, decide_eq_true_eq] at hB
    refine ⟨fun h1 => (by rw [hB.1] at h1; cases h1), fun i hi => ?_⟩
    rw [hB.1] at hi
    obtain rfl : i = t := by simpa using hi
    have hw : wpOp P ops Q' i (wpList P ops Q' l) a w := by unfold wpOp; simp only [h0]; exact h
    exact wpOp_mono (fun a' w' h' => wpAny_of_seqI ts l _ a' w' hm.2 hB.2 h') hw
def headTailB (ops : Array Oper) (n : Nat) (hs ts : List Nat) (l0 : Array Bool) : Bool :=
  Region.noSelect ops && (decide (n < ops.size) && (sinkI .any ops n l0 && (chainI .any ops n l0 && (closedI .any ops l0 && (!l0.getD n false && (decide (l0.size = ops.size) && (lexI .any ops ts hs l0 && (hs.all (fun i => decide (i < n)) && ts.all (fun t => decide (n ≤ t))))))))))
theorem wpAny_head_tail {Q' : Exit → Act → World → Prop} {fuel : Nat} {l0 : Array Bool} {a : Act} {w : World} (n : Nat) (hs ts : List Nat) (hd tl : List Oper) (hf : fuel = hs.length + ts.length) (hC : C w)
    (hB : headTailB ops n hs ts l0 = true) (hhd : hs.map (fun i => ops[i]?) = hd.map some) (htl : ts.map (fun i => ops[i]?) = tl.map some)
    (h : wpQuiet P ops C (fun a' => ∀ w', C w' → wpList P ops Q' tl a' w') hd a) : wpAny P .any ops Q' fuel l0 a w := by
  simp only [headTailB, Bool.and_eq_true, decide_eq_true_eq, Bool.not_eq_true', List.all_eq_true] at hB
  obtain ⟨hsel, hn, hsk, hch, hcl, hn0, hsz, hlex, hlt, hge⟩ := hB
  subst hf
  have inv0 : HeadI .any ops n l0 l0 := by
    refine ⟨hsz, fun j oj hj hl e he hb => ?_, fun t _ ht h0 => getD_in (by omega) h0, fun t h0 => h0⟩
    have hjlt := (Array.getElem?_eq_some_iff.1 hj).1
    have h1 := List.all_eq_true.1 hcl j (List.mem_range.2 hjlt)
    simp only [hl, hj, Bool.not_true, Bool.false_or, Option.map_some, Option.getD_some] at h1
    have h2 := (Array.all_eq_true'.1 h1) e he
    simpa [hb] using h2
  have H := wpAnyQI_lex (md := .any) (C := C) hsel hsk hch hn hn0 hge hs hd l0 a hhd hlt inv0 hlex h
  exact wpAny_of_headQ (Q' := Q') (g := ts.length) (fun listed a' w' hw' hL => wpAny_of_seqI ts tl listed a' w' htl hL.1 (hL.2 w' hw')) _ _ _ _ hC H
/-- a callee that leaves the world as it is, met in a world of the class -/
theorem regrown_same {f : FuncId} {args : Array Value} {w : World} {d : Nat} {os : Array Obj} {v : Value}
    (h : Calls P f args (Go.Sort.grow (redrawn w d) os) fun e w' => e = .returned v ∧ Go.Sort.grow (redrawn w d) os = w') : Calls P f args (Go.Sort.grow (redrawn w d) os) fun e w'' => e = .returned v ∧ ∃ p : Regrown, w'' = Go.Sort.grow (redrawn w p.d) p.os :=
  h.mono fun _ _ ⟨he, hb⟩ => ⟨he, ⟨⟨d, os⟩, hb.symm⟩⟩
end
end Go.Proofs.YtjkggijkccbcpaaDoor
/- A region that draws its order, met by hand: loads are taken first under a condition on the world that need not hold any more behind the operations (E) that wait for all of them. Over any program. -/
namespace Go.Proofs.YtjkggijkccbcpaaDoor
open Go.RowKit

section
variable {P : Program} {ops : Array Oper} {md : Region.Mode} {Q : Exit → Act → World → Prop} {S : World → Prop} {E : List Nat}
def wpAnyHE (P : Program) (md : Region.Mode) (ops : Array Oper) (Q : Exit → Act → World → Prop) (S : World → Prop) (E : List Nat) : Nat → Array Bool → Act → World → Prop
  | 0, listed, a, w => Region.ready md ops listed = [] ∧ Q .normal a w
  | fuel + 1, listed, a, w =>
    (Region.ready md ops listed = [] → Q .normal a w) ∧
    ∀ i ∈ Region.ready md ops listed, wpOp P ops Q i (fun a' w' => (E.contains i = false → S w → S w') ∧ wpAnyHE P md ops Q S E fuel (listed.setIfInBounds i true) a' w') a w
theorem wpAny_of_HE : ∀ (fuel : Nat) (listed : Array Bool) (a : Act) (w : World), wpAnyHE P md ops Q S E fuel listed a w → wpAny P md ops Q fuel listed a w
  | 0, _, _, _, h => h
  | fuel + 1, _, _, _, h => ⟨h.1, fun i hi => wpOp_mono (fun a' w' h' => wpAny_of_HE fuel _ a' w' h'.2) (h.2 i hi)⟩
/-- each waits for the next -/
def pathW (md : Region.Mode) (ops : Array Oper) : List Nat → Bool
  | j :: i :: r => Region.waitsFor md ops j i && pathW md ops (i :: r)
  | _ => true
def Closed (md : Region.Mode) (ops : Array Oper) (listed : Array Bool) : Prop := ∀ (j : Nat) oj, ops[j]? = some oj → listed.getD j false = true → ∀ e ∈ oj.after, Region.binds md e = true → listed.getD e.on false = true
theorem Closed.of {listed : Array Bool} (h : closedI md ops listed = true) : Closed md ops listed := fun j oj hj hl e he hb => by
  have hjlt := (Array.getElem?_eq_some_iff.1 hj).1
  have h1 := List.all_eq_true.1 h j (List.mem_range.2 hjlt)
  simp only [hl, hj, Bool.not_true, Bool.false_or, Option.map_some, Option.getD_some] at h1
  have h2 := (Array.all_eq_true'.1 h1) e he
  simpa [hb] using h2
theorem Closed.set {listed : Array Bool} {i : Nat} (h : Closed md ops listed) (hi : i ∈ Region.ready md ops listed) : Closed md ops (listed.setIfInBounds i true) := fun j oj hj hl e he hb => by
  obtain ⟨_, oi, hoi, hall⟩ := mem_ready.1 hi
  by_cases hij : i = j
  · subst hij
    have : oj = oi := Option.some.inj (hj.symm.trans hoi)
    subst this
    exact getD_set_true (hall e he hb)
  · rw [getD_set_ne false hij] at hl
    exact getD_set_true (h j oj hj hl e he hb)
theorem path_listed {listed : Array Bool} (hc : Closed md ops listed) : ∀ (l : List Nat) (j : Nat), listed.getD j false = true → pathW md ops (j :: l) = true → ∀ i ∈ l, listed.getD i false = true
  | [], _, _, _, i, hi => by cases hi
  | k :: l, j, hj, hp, i, hi => by
    simp only [pathW, Bool.and_eq_true] at hp
    obtain ⟨oj, hoj, e, he, hb, hon⟩ := Region.waitsFor_spec hp.1
    have hk : listed.getD k false = true := hon ▸ hc j oj hoj hj e he hb
    rcases List.mem_cons.1 hi with rfl | hi
    · exact hk
    · exact path_listed hc l k hk hp.2 i hi
theorem path_ready {listed : Array Bool} (hc : Closed md ops listed) {j : Nat} (hj : j ∈ Region.ready md ops listed) : ∀ {l : List Nat}, pathW md ops (j :: l) = true → ∀ i ∈ l, listed.getD i false = true
  | [], _, i, hi => by cases hi
  | k :: l, hp, i, hi => by
    simp only [pathW, Bool.and_eq_true] at hp
    obtain ⟨oj, hoj, e, he, hb, hon⟩ := Region.waitsFor_spec hp.1
    obtain ⟨_, oj', hoj', hall⟩ := mem_ready.1 hj
    have : oj = oj' := Option.some.inj (hoj.symm.trans hoj')
    subst this
    have hk : listed.getD k false = true := hon ▸ hall e he hb
    rcases List.mem_cons.1 hi with rfl | hi
    · exact hk
    · exact path_listed hc l k hk hp.2 i hi
def pathsB (md : Region.Mode) (ops : Array Oper) (i : Nat) : List Nat → List (List Nat) → Bool
  | [], _ => true
  | e :: E, p :: ps => pathW md ops (e :: p) && (p.contains i && pathsB md ops i E ps)
  | _ :: _, [] => false
theorem pathsB_of {i : Nat} : ∀ {E : List Nat} {ps : List (List Nat)}, pathsB md ops i E ps = true → ∀ j ∈ E, ∃ p, pathW md ops (j :: p) = true ∧ i ∈ p
  | [], _, _, j, hj => by cases hj
  | e :: E, [], h, _, _ => by simp [pathsB] at h
  | e :: E, p :: ps, h, j, hj => by
    simp only [pathsB, Bool.and_eq_true] at h
    rcases List.mem_cons.1 hj with rfl | hj
    · exact ⟨p, h.1, by simpa using h.2.1⟩
    · exact pathsB_of h.2.2 j hj
theorem wpAnyHE_first {i : Nat} {oi : Oper} {v : Value} (hi : ops[i]? = some oi) (hsel : ∀ (j : Nat) (o : Oper) cs b, ops[j]? = some o → o.op ≠ .select cs b)
    (hQ : ∀ c a w, Q (.panic c) (a.put oi.dst v) w → Q (.panic c) a w) (hE : ∀ j ∈ E, ∃ p, pathW md ops (j :: p) = true ∧ i ∈ p) :
    ∀ (fuel : Nat) (listed : Array Bool) (a : Act) (w : World), Closed md ops listed →
      (∀ j oj, ops[j]? = some oj → j ≠ i → listed.getD j true = false → (∀ e ∈ oj.after, Region.binds md e = true → e.on ≠ i) → oi.apart ops oj = true) →
      i ∈ Region.ready md ops listed → YieldsIf P ops S oi v a → S w →
      wpAnyHE P md ops Q S E fuel (listed.setIfInBounds i true) (a.put oi.dst v) w → wpAnyHE P md ops Q S E (fuel + 1) listed a w := by
  intro fuel
  induction fuel with
  | zero =>
    intro listed a w _ _ hr hy hS H
    refine ⟨fun h => (by rw [h] at hr; cases hr), fun j hj => ?_⟩
    by_cases hji : j = i
    · subst hji; exact hy.wpOp hi hS ⟨fun _ h => h, H⟩
    · have := ready_mono hj hji
      rw [H.1] at this
      cases this
  | succ fuel ih =>
    intro listed a w hcl hfree hr hy hS H
    refine ⟨fun h => (by rw [h] at hr; cases hr), fun j hj => ?_⟩
    by_cases hji : j = i
    · subst hji; exact hy.wpOp hi hS ⟨fun _ h => h, H⟩
    · have h1 := H.2 j (ready_mono hj hji)
      obtain ⟨hjun, oj, hoj, hall⟩ := mem_ready.1 hj
      have hiun := (mem_ready.1 hr).1
      have hnot : ∀ e ∈ oj.after, Region.binds md e = true → e.on ≠ i := fun e he hb heq => by
        have h1 := hall e he hb
        rw [heq, getD_both hiun] at h1
        cases h1
      have hjE : E.contains j = false := by
        rw [Bool.eq_false_iff]
        intro h
        obtain ⟨p, hp, hip⟩ := hE j (by simpa using h)
        have := path_ready hcl hj hp i hip
        rw [getD_both hiun] at this
        cases this
      have h2 := wpOp_putIf hoj (hfree j oj hoj hji hjun hnot) (fun cs b => hsel i oi cs b hi) (fun cs b => hsel j oj cs b hoj) hQ hy h1
      have hfree' : ∀ k ok, ops[k]? = some ok → k ≠ i → (listed.setIfInBounds j true).getD k true = false →
          (∀ e ∈ ok.after, Region.binds md e = true → e.on ≠ i) → oi.apart ops ok = true := fun k ok hk hki hun hno => by
        refine hfree k ok hk hki ?_ hno
        by_cases hjk : j = k
        · subst hjk; exact hjun
        · rw [getD_set_ne true hjk] at hun; exact hun
      refine wpOp_mono (fun a' w' h3 => ⟨h3.2.1, ih (listed.setIfInBounds j true) a' w' (hcl.set hj) hfree' (ready_mono hr (Ne.symm hji)) h3.1 (h3.2.1 hjE hS) ?_⟩) h2
      rw [Array.setIfInBounds_comm _ _ hji]
      exact h3.2.2
/-- one that hangs on no world -/
theorem wpAnyHE_firstP {i : Nat} {oi : Oper} {v : Value} (hi : ops[i]? = some oi) (hsel : ∀ (j : Nat) (o : Oper) cs b, ops[j]? = some o → o.op ≠ .select cs b)
    (hQ : ∀ c a w, Q (.panic c) (a.put oi.dst v) w → Q (.panic c) a w) :
    ∀ (fuel : Nat) (listed : Array Bool) (a : Act) (w : World),
      (∀ j oj, ops[j]? = some oj → j ≠ i → listed.getD j true = false → (∀ e ∈ oj.after, Region.binds md e = true → e.on ≠ i) → oi.apart ops oj = true) →
      i ∈ Region.ready md ops listed → YieldsIf P ops (fun _ => True) oi v a →
      wpAnyHE P md ops Q S E fuel (listed.setIfInBounds i true) (a.put oi.dst v) w → wpAnyHE P md ops Q S E (fuel + 1) listed a w := by
  intro fuel
  induction fuel with
  | zero =>
    intro listed a w _ hr hy H
    refine ⟨fun h => (by rw [h] at hr; cases hr), fun j hj => ?_⟩
    by_cases hji : j = i
    · subst hji; exact hy.wpOp hi trivial ⟨fun _ h => h, H⟩
    · have := ready_mono hj hji
      rw [H.1] at this
      cases this
  | succ fuel ih =>
    intro listed a w hfree hr hy H
    refine ⟨fun h => (by rw [h] at hr; cases hr), fun j hj => ?_⟩
    by_cases hji : j = i
    · subst hji; exact hy.wpOp hi trivial ⟨fun _ h => h, H⟩
    · have h1 := H.2 j (ready_mono hj hji)
      obtain ⟨hjun, oj, hoj, hall⟩ := mem_ready.1 hj
      have hiun := (mem_ready.1 hr).1
      have hnot : ∀ e ∈ oj.after, Region.binds md e = true → e.on ≠ i := fun e he hb heq => by
        have h1 := hall e he hb
        rw [heq, getD_both hiun] at h1
        cases h1
      have h2 := wpOp_putIf hoj (hfree j oj hoj hji hjun hnot) (fun cs b => hsel i oi cs b hi) (fun cs b => hsel j oj cs b hoj) hQ hy h1
      have hfree' : ∀ k ok, ops[k]? = some ok → k ≠ i → (listed.setIfInBounds j true).getD k true = false →
          (∀ e ∈ ok.after, Region.binds md e = true → e.on ≠ i) → oi.apart ops ok = true := fun k ok hk hki hun hno => by
        refine hfree k ok hk hki ?_ hno
        by_cases hjk : j = k
        · subst hjk; exact hjun
        · rw [getD_set_ne true hjk] at hun; exact hun
      refine wpOp_mono (fun a' w' h3 => ⟨h3.2.1, ih (listed.setIfInBounds j true) a' w' hfree' (ready_mono hr (Ne.symm hji)) h3.1 ?_⟩) h2
      rw [Array.setIfInBounds_comm _ _ hji]
      exact h3.2.2
theorem wpAnyHE_take {i : Nat} {oi : Oper} {v : Value} {fuel : Nat} {listed : Array Bool} {a : Act} {w : World} (ps : List (List Nat)) (hi : ops[i]? = some oi)
    (hs : Region.noSelect ops = true) (hf : Region.free md ops listed i = true) (hr : (Region.ready md ops listed).contains i = true) (hcl : closedI md ops listed = true) (hps : pathsB md ops i E ps = true)
    (hQ : ∀ c a w, Q (.panic c) (a.put oi.dst v) w → Q (.panic c) a w) (hy : YieldsIf P ops S oi v a) (hS : S w)
    (h : wpAnyHE P md ops Q S E fuel (listed.setIfInBounds i true) (a.put oi.dst v) w) : wpAnyHE P md ops Q S E (fuel + 1) listed a w :=
  wpAnyHE_first hi (Region.noSelect_spec hs) hQ (pathsB_of hps) fuel listed a w (Closed.of hcl) (Region.free_spec hi hf) (by simpa using hr) hy hS h
theorem wpAnyHE_takeP {i : Nat} {oi : Oper} {v : Value} {fuel : Nat} {listed : Array Bool} {a : Act} {w : World} (hi : ops[i]? = some oi)
    (hs : Region.noSelect ops = true) (hf : Region.free md ops listed i = true) (hr : (Region.ready md ops listed).contains i = true)
    (hQ : ∀ c a w, Q (.panic c) (a.put oi.dst v) w → Q (.panic c) a w) (hy : YieldsIf P ops (fun _ => True) oi v a)
    (h : wpAnyHE P md ops Q S E fuel (listed.setIfInBounds i true) (a.put oi.dst v) w) : wpAnyHE P md ops Q S E (fuel + 1) listed a w :=
  wpAnyHE_firstP hi (Region.noSelect_spec hs) hQ fuel listed a w (Region.free_spec hi hf) (by simpa using hr) hy h
theorem wpAnyHE_done {listed : Array Bool} {a : Act} {w : World} (hr : Region.ready md ops listed = []) (h : Q .normal a w) :
    ∀ fuel, wpAnyHE P md ops Q S E fuel listed a w
  | 0 => ⟨hr, h⟩
  | _ + 1 => ⟨fun _ => h, by rw [hr]; simp⟩
def AllReadyE (P : Program) (md : Region.Mode) (ops : Array Oper) (Q : Exit → Act → World → Prop) (S : World → Prop) (E : List Nat) (fuel : Nat) (listed : Array Bool) (a : Act) (w : World) (rs : List Nat) : Prop :=
  ∀ i ∈ rs, wpOp P ops Q i (fun a' w' => (E.contains i = false → S w → S w') ∧ wpAnyHE P md ops Q S E fuel (listed.setIfInBounds i true) a' w') a w
theorem AllReadyE.nil {fuel : Nat} {listed : Array Bool} {a : Act} {w : World} : AllReadyE P md ops Q S E fuel listed a w [] := fun _ h => by cases h
theorem AllReadyE.cons {fuel : Nat} {listed : Array Bool} {a : Act} {w : World} {i : Nat} {o : Oper} {rs : List Nat} (ho : ops[i]? = some o)
    (h : ∀ K' : Act → World → Prop, Shut (∀ a w, S w → (S w → wpAnyHE P md ops Q S E fuel (listed.setIfInBounds i true) a w) → K' a w) → if Region.wanted o (yielded ops a.tmps) = true then Oper.wp P o a w K' Q else K' (a.put o.dst undef) w)
    (hs : AllReadyE P md ops Q S E fuel listed a w rs) : AllReadyE P md ops Q S E fuel listed a w (i :: rs) := fun j hj => by
  rcases List.mem_cons.1 hj with rfl | hj
  · exact wpOp_step ho (fun K' hK => h K' (fun a w hS hW => hK a w ⟨fun _ _ => hS, hW hS⟩))
  · exact hs j hj
/-- one of E: the condition need not hold behind it -/
theorem AllReadyE.consE {fuel : Nat} {listed : Array Bool} {a : Act} {w : World} {i : Nat} {o : Oper} {rs : List Nat} (ho : ops[i]? = some o) (hi : E.contains i = true)
    (h : ∀ K' : Act → World → Prop, Shut (∀ a w, wpAnyHE P md ops Q S E fuel (listed.setIfInBounds i true) a w → K' a w) → if Region.wanted o (yielded ops a.tmps) = true then Oper.wp P o a w K' Q else K' (a.put o.dst undef) w)
    (hs : AllReadyE P md ops Q S E fuel listed a w rs) : AllReadyE P md ops Q S E fuel listed a w (i :: rs) := fun j hj => by
  rcases List.mem_cons.1 hj with rfl | hj
  · exact wpOp_step ho (fun K' hK => h K' (fun a w hW => hK a w ⟨fun h => (by rw [hi] at h; cases h), hW⟩))
  · exact hs j hj
theorem wpAnyHE_ready {rs : List Nat} {fuel : Nat} {listed : Array Bool} {a : Act} {w : World} (hr : Region.ready md ops listed = rs) (hne : rs ≠ [])
    (h : AllReadyE P md ops Q S E fuel listed a w rs) : wpAnyHE P md ops Q S E (fuel + 1) listed a w := ⟨fun h0 => absurd (hr ▸ h0) hne, hr ▸ h⟩
theorem wp_region_heldE_drew {id : Nat} {a : Act} {w : World} (hm : P.follows .mixedOrders = true) (hS : S w.drew)
    (h : S w.drew → wpAnyHE P .any ops Q S E ops.size (Array.replicate ops.size false) a w.drew) : (Code.region id ops true).wp P Q a w :=
  wp_region_any hm (wpAny_of_HE _ _ _ _ (h hS))
end
end Go.Proofs.YtjkggijkccbcpaaDoor
namespace Go.Proofs.YtjkggijkccbcpaaDoor
open Go.RowKit

theorem replaceK_one {c : UInt8} (new : List UInt8) : ∀ (n : Nat) (l : List UInt8), l.length ≤ n → Lib.replaceK [c] new (Lib.count l [c]) l = l.flatMap fun b => if b = c then new else [b] := by
  intro n
  induction n with
  | zero =>
    intro l hl
    have : l = [] := List.length_eq_zero_iff.1 (by omega)
    subst this
    rw [Lib.count_miss (index_no (by simp))]; rfl
  | succ n ih =>
    intro l hl
    have plain : ∀ A : List UInt8, c ∉ A → (A.flatMap fun b => if b = c then new else [b]) = A := by
      intro A
      induction A with
      | nil => intro _; rfl
      | cons b A ih2 =>
        intro h
        rw [List.mem_cons, not_or] at h
        rw [List.flatMap_cons, ih2 h.2, if_neg (fun e => h.1 e.symm)]; rfl
    rcases first_of c l with h | ⟨A, B, rfl, hA⟩
    · rw [Lib.count_miss (index_no h), plain l h]; rfl
    · have hi := index_yes (B := B) hA
      rw [Lib.count_hit (by simp) hi, Nat.add_comm, Lib.replaceK_hit _ _ _ _ _ hi]
      have e1 : (A ++ c :: B).take A.length = A := by simp
      have e2 : (A ++ c :: B).drop (A.length + [c].length) = B := by simp
      rw [e1, e2, ih B (by simp at hl; omega), List.flatMap_append, plain A hA, List.flatMap_cons, if_pos rfl]
      simp
theorem replaceAll_one {c : UInt8} {new : List UInt8} (h : [c] ≠ new) (l : List UInt8) : Lib.replaceAll l [c] new = l.flatMap fun b => if b = c then new else [b] := by
  unfold Lib.replaceAll Lib.replace
  rw [if_neg (by simpa using h)]
  have e : Lib.replaceNum l [c] (-1) = Lib.count l [c] := by unfold Lib.replaceNum; rw [if_pos (.inl (by decide))]
  rw [e]
  exact replaceK_one new _ l (Nat.le_refl _)
theorem escB_two (l : List UInt8) : ((l.flatMap fun b => if b = 92 then [92, 92] else [b]).flatMap fun b => if b = 34 then [92, 34] else [b]) = escB l := by
  induction l with
  | nil => rfl
  | cons b l ih =>
    have e : escB (b :: l) = (if b = 34 ∨ b = 92 then [92, b] else [b]) ++ escB l := rfl
    rw [List.flatMap_cons, List.flatMap_append, ih, e]
    congr 1
    by_cases h1 : b = 92
    · subst h1; decide
    · by_cases h2 : b = 34
      · subst h2; decide
      · simp [h1, h2]
theorem escB_len (l : List UInt8) : (escB l).length ≤ 2 * l.length := by
  induction l with
  | nil => simp [escB]
  | cons b l ih =>
    have e : escB (b :: l) = (if b = 34 ∨ b = 92 then [92, b] else [b]) ++ escB l := rfl
    rw [e, List.length_append, List.length_cons]
    split <;> simp <;> omega
theorem esc1_len (l : List UInt8) : (l.flatMap fun b => if b = (92 : UInt8) then [92, 92] else [b]).length ≤ 2 * l.length := by
  induction l with
  | nil => simp
  | cons b l ih =>
    rw [List.flatMap_cons, List.length_append, List.length_cons]
    split <;> simp only [List.length_cons, List.length_nil] <;> omega
theorem countB_le {c : UInt8} (s : ByteArray) : Lib.countB s ⟨#[c]⟩ ≤ s.size := by
  have := Lib.countB_mul_le ⟨#[c]⟩ (Nat.le_refl 1) s.size s (Nat.le_refl _)
  have e : (⟨#[c]⟩ : ByteArray).size = 1 := rfl
  rw [e] at this; omega
theorem Replace_one (s : ByteArray) (c : UInt8) (n1 n2 : UInt8) (w : World) (hg : GM w) (hs : s.size ≤ 1000000) :
    Calls Tryd.prog 61 #[.string s, .string ⟨#[c]⟩, .string ⟨#[n1, n2]⟩] w fun e w' => e = .returned (.string (tx (s.data.toList.flatMap fun b => if b = c then [n1, n2] else [b]))) ∧ Below w.heap.size w w' := by
  obtain ⟨m, hm⟩ := hg
  have h2 : (⟨#[n1, n2]⟩ : ByteArray).size = 2 := rfl
  refine (Tryd.strings_ReplaceAll s ⟨#[c]⟩ ⟨#[n1, n2]⟩ m w (by omega) hm (Nat.le_refl 1) (by have := countB_le (c := c) s; rw [h2]; omega)).mono ?_
  rintro e w' ⟨rfl, hb⟩
  refine ⟨?_, hb⟩
  have e1 : (⟨#[c]⟩ : ByteArray).data.toList = [c] := rfl
  have e2 : (⟨#[n1, n2]⟩ : ByteArray).data.toList = [n1, n2] := rfl
  rw [e1, e2, replaceAll_one (by simp)]
  rfl
set_option maxRecDepth 100000 in
set_option maxHeartbeats 1000000 in
theorem quote_any (s : ByteArray) (w : World) (hg : GM w) (hs : s.size ≤ 100000) :
    Calls Tryd.prog 37 #[.string s] w fun e w' => e = .returned (.string (tx (quoteL s.data.toList))) ∧ Below w.heap.size w w' := by
  have H1 := hide (Replace_one s 92 92 92 w hg (by omega))
  have HL : Hid ((tx (s.data.toList.flatMap fun b => if b = (92 : UInt8) then [92, 92] else [b])).size ≤ 200000) := by
    show _ ≤ _
    rw [tx_size]; have := esc1_len s.data.toList; rw [tl_len] at this; omega
  have H2 := hide fun w' (hb : Below w.heap.size w w') => Replace_one (tx (s.data.toList.flatMap fun b => if b = (92 : UInt8) then [92, 92] else [b])) 34 92 34 w' (hg.later hb (Nat.le_refl _)) (by have := HL.out; omega)
  rw [tx_list, escB_two] at H2
  have HQ : Hid ((⟨#[34]⟩ ++ tx (escB s.data.toList)) ++ ⟨#[34]⟩ = tx (quoteL s.data.toList)) := by
    show _ = _
    apply tl_inj
    rw [tl, tl, tx_list]
    simp [tx, ByteArray.data_append, quoteL]
  have hE : (tx (escB s.data.toList)).size ≤ 200000 := by rw [tx_size]; have := escB_len s.data.toList; rw [tl_len] at this; omega
  generalize tx (s.data.toList.flatMap fun b => if b = (92 : UInt8) then [92, 92] else [b]) = A at *
  generalize tx (escB s.data.toList) = B at *
  have n1 : ¬ 9223372036854775807 < 1 + B.size := by omega
  have n2 : ¬ 9223372036854775807 < 1 + B.size + 1 := by omega
  clear hg hs
  go_enter Tryd.func37, Tryd.ntmps37
  go_wp2_with fail
  refine H1.out.mono ?_
  rintro e w1 ⟨rfl, b1⟩
  have HB1 := hide b1
  clear b1
  go_wp2_with fail
  refine (H2.out _ HB1.out).mono ?_
  rintro e w2 ⟨rfl, b2⟩
  have HB2 := hide (HB1.out.trans (b2.mono HB1.out.size))
  clear b2
  go_wp2
  go_ret
  exact ⟨by rw [← HQ.out]; rfl, HB2.out⟩
end Go.Proofs.YtjkggijkccbcpaaDoor
