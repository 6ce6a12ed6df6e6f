/- The mapper: one pair of a rule. -/
import Derived.Test.YtgeedjlbajmdkaaGreatDoorErr
import Derived.Lib.QuietBelow
import Derived.StillTail
import Derived.Test.YtgeedjlbajmdkaaGreatDoorJobCheck
import Derived.Test.YtgeedjlbajmdkaaGreatDoorExpr11
import Derived.Deep.RegionHeld3
set_option linter.unusedSimpArgs false
set_option linter.unusedVariables false
/- A region that draws its order: reads and calls whose values do not hang on the world, then a tail in one forced order: walked once. Over any program. -/
namespace Go.Proofs.YtgeedjlbajmdkaaGreatDoor
open Go.RowKit

section
variable {P : Program} {ops : Array Oper} {md : Region.Mode} {C : World → Prop}
def wpAnyQL (P : Program) (md : Region.Mode) (ops : Array Oper) (C : World → Prop) (n : Nat) (L : Array Bool → Act → Prop) : Nat → Array Bool → Act → Prop
  | 0, listed, a => L listed a
  | f + 1, listed, a =>
    Region.ready md ops listed ≠ [] ∧ ∀ i ∈ Region.ready md ops listed, i < n ∧ qOp P ops C i (wpAnyQL P md ops C n L f (listed.setIfInBounds i true)) a
theorem wpAny_of_headQ {n g : Nat} {L : Array Bool → Act → Prop} {Q' : Exit → Act → World → Prop} (hL : ∀ listed a w, C w → L listed a → wpAny P md ops Q' g listed a w) :
    ∀ (f : Nat) (listed : Array Bool) (a : Act) (w : World), C w → wpAnyQL P md ops C n L f listed a → wpAny P md ops Q' (f + g) listed a w
  | 0, listed, a, w, hw, h => by rw [Nat.zero_add]; exact hL _ _ _ hw h
  | f + 1, listed, a, w, hw, h => by
    rw [show f + 1 + g = (f + g) + 1 by omega]
    exact ⟨fun h0 => absurd h0 h.1, fun i hi => wpOp_of_qOp hw (fun a' w' hw' h' => wpAny_of_headQ hL f _ a' w' hw' h') (h.2 i hi).2⟩
theorem wpAnyQL_first {n i : Nat} {oi : Oper} {v : Value} {L : Array Bool → Act → Prop} (hi : ops[i]? = some oi) (hsel : ∀ (j : Nat) (o : Oper) cs b, ops[j]? = some o → o.op ≠ .select cs b)
    (hs : Region.sinkB md ops n = true) (hc : Region.chainB md ops n = true) (hn : n < ops.size) (hin : i < n)
    (hdone : ∀ listed a, L listed a → ∀ j ∈ Region.ready md ops listed, n ≤ j) :
    ∀ (f : Nat) (listed : Array Bool) (a : Act), HeadInv md ops n listed →
      (∀ j oj, ops[j]? = some oj → j ≠ i → listed.getD j true = false → (∀ e ∈ oj.after, Region.binds md e = true → e.on ≠ i) → oi.apart ops oj = true) →
      i ∈ Region.ready md ops listed → YieldsIn P ops C oi v a →
      wpAnyQL P md ops C n L f (listed.setIfInBounds i true) (a.put oi.dst v) → wpAnyQL P md ops C n L (f + 1) listed a := by
  intro f
  induction f with
  | zero =>
    intro listed a inv _ hr hy H
    have hun := (mem_ready.1 hr).1
    refine ⟨fun h => (by rw [h] at hr; cases hr), fun j hj => ?_⟩
    have hjn : j < n := by
      rcases Nat.lt_or_ge j n with h | h
      · exact h
      · exact absurd hj (tail_waits hs hc hn inv _ i rfl hin hun j h)
    refine ⟨hjn, ?_⟩
    by_cases hji : j = i
    · subst hji; exact hy.qOp hi H
    · have := hdone _ _ H j (ready_mono hj hji)
      omega
  | succ f ih =>
    intro listed a inv hfree hr hy H
    have hun := (mem_ready.1 hr).1
    refine ⟨fun h => (by rw [h] at hr; cases hr), fun j hj => ?_⟩
    have hjn : j < n := by
      rcases Nat.lt_or_ge j n with h | h
      · exact h
      · exact absurd hj (tail_waits hs hc hn inv _ i rfl hin hun j h)
    refine ⟨hjn, ?_⟩
    by_cases hji : j = i
    · subst hji; exact hy.qOp hi H
    · have h1 := (H.2 j (ready_mono hj hji)).2
      obtain ⟨hjun, oj, hoj, hall⟩ := mem_ready.1 hj
      have hnot : ∀ e ∈ oj.after, Region.binds md e = true → e.on ≠ i := fun e he hb heq => by
        have h1 := hall e he hb
        rw [heq, getD_both hun] at h1
        cases h1
      have h2 := qOp_put hoj (hfree j oj hoj hji hjun hnot) (fun cs b => hsel i oi cs b hi) (fun cs b => hsel j oj cs b hoj) hy h1
      have hfree' : ∀ k ok, ops[k]? = some ok → k ≠ i → (listed.setIfInBounds j true).getD k true = false →
          (∀ e ∈ ok.after, Region.binds md e = true → e.on ≠ i) → oi.apart ops ok = true := fun k ok hk hki hun hno => by
        refine hfree k ok hk hki ?_ hno
        by_cases hjk : j = k
        · subst hjk; exact hjun
        · rw [getD_set_ne true hjk] at hun; exact hun
      refine qOp_mono (fun a' h3 => ih (listed.setIfInBounds j true) a' (inv.set hj hjn) hfree' (ready_mono hr (Ne.symm hji)) h3.1 ?_) h2
      rw [Array.setIfInBounds_comm _ _ hji]
      exact h3.2
theorem wpAnyQL_lex {n g : Nat} {Lq : Act → Prop} (hsel : Region.noSelect ops = true) (hs : Region.sinkB md ops n = true) (hc : Region.chainB md ops n = true) (hn : n < ops.size) :
    ∀ (l : List Oper) (k : Nat) (listed : Array Bool) (a : Act), (∀ j, j < l.length → l[j]? = ops[k + j]?) → k + l.length = n → HeadInv md ops n listed →
    Region.lexHead md ops g l.length k listed = true → wpQuiet P ops C Lq l a →
    wpAnyQL P md ops C n (fun listed' a' => Region.seqB md ops g n listed' = true ∧ Lq a') l.length listed a
  | [], k, listed, a, _, hk, _, hB, h => by
    have : k = n := by simpa using hk
    subst this
    exact ⟨by simpa [Region.lexHead] using hB, h⟩
  | o :: l, k, listed, a, hl, hk, inv, hB, h => by
    have h0 : ops[k]? = some o := by simpa using (hl 0 (by simp)).symm
    simp only [List.length_cons, Region.lexHead, Bool.and_eq_true] at hB
    obtain ⟨⟨hr, hf⟩, hB'⟩ := hB
    have hkn : k < n := by simp only [List.length_cons] at hk; omega
    have hr' : k ∈ Region.ready md ops listed := by simpa using hr
    have hst : qOp P ops C k (wpQuiet P ops C Lq l) a := by unfold qOp; simp only [h0]; exact h
    obtain ⟨v, hy, hK⟩ := yieldsIn_of_qOp h0 hst
    exact wpAnyQL_first h0 (Region.noSelect_spec hsel) hs hc hn hkn (fun listed' a' hL => seqB_ready hL.1) l.length listed a inv (Region.free_spec h0 hf) hr' hy
      (wpAnyQL_lex hsel hs hc hn l (k + 1) _ _ (fun j hj => by have := hl (j + 1) (by simp; omega); simpa [Nat.add_assoc, Nat.add_comm 1 j] using this) (by simp only [List.length_cons] at hk; omega) (inv.set hr' hkn) hB' hK)
/-- the first n operations are quiet in a class of worlds; what stands behind them comes in one order -/
theorem wp_region_quiet_tail {id : Nat} {Q : Exit → Act → World → Prop} {a : Act} {w : World} {l : List Oper} (n : Nat) (hm : P.follows .mixedOrders = true) (hB : Region.lexTailB .any l.toArray n = true) (hC : C { w with drawn := w.drawn + 1 })
    (h : wpQuiet P l.toArray C (fun a' => ∀ w', C w' → wpList P l.toArray Q (l.drop n) a' w') (l.take n) a) : (Code.region id l.toArray true).wp P Q a w := by
  simp only [Region.lexTailB, Bool.and_eq_true, decide_eq_true_eq] at hB
  obtain ⟨⟨⟨⟨hsel, hn⟩, hs⟩, hc⟩, hlex⟩ := hB
  have hn' : n < l.length := by simpa using hn
  have htl : (l.take n).length = n := by simp; omega
  have hdl : (l.drop n).length = l.toArray.size - n := by simp
  have inv0 : HeadInv .any l.toArray n (Array.replicate l.toArray.size false) :=
    ⟨by simp, fun j oj _ hl => (by rw [getD_replicate_false] at hl; cases hl), fun t _ ht => getD_in (by simpa using ht) (getD_replicate_false _ _)⟩
  have H := wpAnyQL_lex (md := .any) (C := C) (g := l.toArray.size - n) hsel hs hc hn (l.take n) 0 _ a (fun j hj => by
    have hj' : j < n := by rw [htl] at hj; exact hj
    simp [hj']) (by simpa using htl) inv0 (by rw [htl]; exact hlex) h
  refine wp_region_any hm ?_
  have := wpAny_of_headQ (Q' := Q) (g := l.toArray.size - n) (fun listed a' w' hw' hL => by
    have := wpAny_of_seq (md := .any) (Q' := Q) (l.drop n) n listed a' w' (fun j => by simp [List.getElem?_drop]) (by rw [hdl]; exact hL.1) (hL.2 w' hw')
    rwa [hdl] at this) _ _ _ _ hC H
  rw [htl, show n + (l.toArray.size - n) = l.toArray.size by omega] at this
  exact this
/-- the same at the worlds that lie above w -/
theorem wp_region_below_tail {id : Nat} {Q : Exit → Act → World → Prop} {a : Act} {w : World} {l : List Oper} (n : Nat) (hm : P.follows .mixedOrders = true) (hB : Region.lexTailB .any l.toArray n = true)
    (h : wpQuiet P l.toArray (fun w' => ∃ p : Regrown, w' = Go.Sort.grow (redrawn w p.d) p.os) (fun a' => ∀ w', (∃ p : Regrown, w' = Go.Sort.grow (redrawn w p.d) p.os) → wpList P l.toArray Q (l.drop n) a' w') (l.take n) a) : (Code.region id l.toArray true).wp P Q a w :=
  wp_region_quiet_tail (C := fun w' => ∃ p : Regrown, w' = Go.Sort.grow (redrawn w p.d) p.os) n hm hB ⟨⟨w.drawn + 1, #[]⟩, by rw [Go.Sort.grow_empty]; rfl⟩ h
/-! the same where some that hang on no world ('floaters') have been taken first -/
def seqI (md : Region.Mode) (ops : Array Oper) : List Nat → Array Bool → Bool
  | [], listed => (Region.ready md ops listed).isEmpty
  | k :: ks, listed => decide (Region.ready md ops listed = [k]) && seqI md ops ks (listed.setIfInBounds k true)
def lexI (md : Region.Mode) (ops : Array Oper) (ts : List Nat) : List Nat → Array Bool → Bool
  | [], listed => seqI md ops ts listed
  | k :: ks, listed => (Region.ready md ops listed).contains k && Region.free md ops listed k && lexI md ops ts ks (listed.setIfInBounds k true)
def sinkI (md : Region.Mode) (ops : Array Oper) (n : Nat) (l0 : Array Bool) : Bool :=
  (List.range n).all fun i => l0.getD i false || (List.range (n + 1)).any fun j => decide (i < j) && Region.waitsFor md ops j i
def chainI (md : Region.Mode) (ops : Array Oper) (n : Nat) (l0 : Array Bool) : Bool :=
  (List.range ops.size).all fun t => decide (t ≤ n) || (l0.getD t false || (List.range t).any fun u => decide (n ≤ u) && (!l0.getD u false && Region.waitsFor md ops t u))
def closedI (md : Region.Mode) (ops : Array Oper) (l0 : Array Bool) : Bool :=
  (List.range ops.size).all fun j => !l0.getD j false || ((ops[j]?).map fun o => o.after.all fun e => !Region.binds md e || l0.getD e.on false).getD true
structure HeadI (md : Region.Mode) (ops : Array Oper) (n : Nat) (l0 listed : Array Bool) : Prop where
  size : listed.size = ops.size
  closed : ∀ j oj, ops[j]? = some oj → listed.getD j false = true → ∀ e ∈ oj.after, Region.binds md e = true → listed.getD e.on false = true
  tail : ∀ t, n ≤ t → t < ops.size → l0.getD t false = false → listed.getD t true = false
  more : ∀ t, l0.getD t false = true → listed.getD t false = true
theorem HeadI.set {n i : Nat} {l0 listed : Array Bool} (inv : HeadI md ops n l0 listed) (hi : i ∈ Region.ready md ops listed) (hin : i < n) : HeadI md ops n l0 (listed.setIfInBounds i true) := by
  obtain ⟨_, oi, hoi, hall⟩ := mem_ready.1 hi
  refine ⟨by simp [inv.size], fun j oj hj hl e he hb => ?_, fun t ht ht' h0 => by rw [getD_set_ne true (by omega)]; exact inv.tail t ht ht' h0, fun t h0 => getD_set_true (inv.more t h0)⟩
  by_cases hij : i = j
  · subst hij
    have : oj = oi := Option.some.inj (hj.symm.trans hoi)
    subst this
    exact getD_set_true (hall e he hb)
  · rw [getD_set_ne false hij] at hl
    exact getD_set_true (inv.closed j oj hj hl e he hb)
theorem tailI_waits {n : Nat} {l0 listed : Array Bool} (hs : sinkI md ops n l0 = true) (hc : chainI md ops n l0 = true) (hn : n < ops.size) (hn0 : l0.getD n false = false) (inv : HeadI md ops n l0 listed) :
    ∀ (d i : Nat), n - i = d → i < n → listed.getD i true = false → ∀ t, n ≤ t → t ∉ Region.ready md ops listed := by
  intro d
  induction d using Nat.strongRecOn with
  | _ d ih =>
    intro i hd hi hun t ht hr
    obtain ⟨htun, ot, hot, hall⟩ := mem_ready.1 hr
    have htlt : t < ops.size := (Array.getElem?_eq_some_iff.1 hot).1
    by_cases htn : t = n
    · subst htn
      have h1 := List.all_eq_true.1 hs i (List.mem_range.2 hi)
      rw [Bool.or_eq_true] at h1
      rcases h1 with h1 | h1
      · have := inv.more i h1
        rw [getD_both hun] at this
        cases this
      obtain ⟨j, hj, hj2⟩ := List.any_eq_true.1 h1
      simp only [Bool.and_eq_true, decide_eq_true_eq] at hj2
      obtain ⟨oj, hoj, e, he, hb, hon⟩ := Region.waitsFor_spec hj2.2
      have hjle : j ≤ t := by have := List.mem_range.1 hj; omega
      by_cases hjt : j = t
      · subst hjt
        have : oj = ot := Option.some.inj (hoj.symm.trans hot)
        subst this
        have h2 := hall e he hb
        rw [hon, getD_both hun] at h2
        cases h2
      · cases hl : listed.getD j false with
        | true =>
          have h2 := inv.closed j oj hoj hl e he hb
          rw [hon, getD_both hun] at h2
          cases h2
        | false =>
          have hjs : j < listed.size := by rw [inv.size]; omega
          exact ih (t - j) (by omega) j rfl (by omega) (getD_in hjs hl) t (Nat.le_refl _) hr
    · have h1 := List.all_eq_true.1 hc t (List.mem_range.2 htlt)
      simp only [Bool.or_eq_true, decide_eq_true_eq] at h1
      rcases h1 with h1 | h1 | h1
      · omega
      · have := inv.more t h1
        rw [getD_both htun] at this
        cases this
      · obtain ⟨u, hu, hu2⟩ := List.any_eq_true.1 h1
        simp only [Bool.and_eq_true, decide_eq_true_eq, Bool.not_eq_true'] at hu2
        obtain ⟨hnu, hu0, hw⟩ := hu2
        obtain ⟨o', ho', e, he, hb, hon⟩ := Region.waitsFor_spec hw
        have : o' = ot := Option.some.inj (ho'.symm.trans hot)
        subst this
        have h2 := hall e he hb
        rw [hon, getD_both (inv.tail u hnu (by have := List.mem_range.1 hu; omega) hu0)] at h2
        cases h2
theorem wpAnyQI_first {n i : Nat} {oi : Oper} {v : Value} {l0 : Array Bool} {L : Array Bool → Act → Prop} (hi : ops[i]? = some oi) (hsel : ∀ (j : Nat) (o : Oper) cs b, ops[j]? = some o → o.op ≠ .select cs b)
    (hs : sinkI md ops n l0 = true) (hc : chainI md ops n l0 = true) (hn : n < ops.size) (hn0 : l0.getD n false = false) (hin : i < n)
    (hdone : ∀ listed a, L listed a → ∀ j ∈ Region.ready md ops listed, n ≤ j) :
    ∀ (f : Nat) (listed : Array Bool) (a : Act), HeadI md ops n l0 listed →
      (∀ j oj, ops[j]? = some oj → j ≠ i → listed.getD j true = false → (∀ e ∈ oj.after, Region.binds md e = true → e.on ≠ i) → oi.apart ops oj = true) →
      i ∈ Region.ready md ops listed → YieldsIn P ops C oi v a →
      wpAnyQL P md ops C n L f (listed.setIfInBounds i true) (a.put oi.dst v) → wpAnyQL P md ops C n L (f + 1) listed a := by
  intro f
  induction f with
  | zero =>
    intro listed a inv _ hr hy H
    have hun := (mem_ready.1 hr).1
    refine ⟨fun h => (by rw [h] at hr; cases hr), fun j hj => ?_⟩
    have hjn : j < n := by
      rcases Nat.lt_or_ge j n with h | h
      · exact h
      · exact absurd hj (tailI_waits hs hc hn hn0 inv _ i rfl hin hun j h)
    refine ⟨hjn, ?_⟩
    by_cases hji : j = i
    · subst hji; exact hy.qOp hi H
    · have := hdone _ _ H j (ready_mono hj hji)
      omega
  | succ f ih =>
    intro listed a inv hfree hr hy H
    have hun := (mem_ready.1 hr).1
    refine ⟨fun h => (by rw [h] at hr; cases hr), fun j hj => ?_⟩
    have hjn : j < n := by
      rcases Nat.lt_or_ge j n with h | h
      · exact h
      · exact absurd hj (tailI_waits hs hc hn hn0 inv _ i rfl hin hun j h)
    refine ⟨hjn, ?_⟩
    by_cases hji : j = i
    · subst hji; exact hy.qOp hi H
    · have h1 := (H.2 j (ready_mono hj hji)).2
      obtain ⟨hjun, oj, hoj, hall⟩ := mem_ready.1 hj
      have hnot : ∀ e ∈ oj.after, Region.binds md e = true → e.on ≠ i := fun e he hb heq => by
        have h1 := hall e he hb
        rw [heq, getD_both hun] at h1
        cases h1
      have h2 := qOp_put hoj (hfree j oj hoj hji hjun hnot) (fun cs b => hsel i oi cs b hi) (fun cs b => hsel j oj cs b hoj) hy h1
      have hfree' : ∀ k ok, ops[k]? = some ok → k ≠ i → (listed.setIfInBounds j true).getD k true = false →
          (∀ e ∈ ok.after, Region.binds md e = true → e.on ≠ i) → oi.apart ops ok = true := fun k ok hk hki hun hno => by
        refine hfree k ok hk hki ?_ hno
        by_cases hjk : j = k
        · subst hjk; exact hjun
        · rw [getD_set_ne true hjk] at hun; exact hun
      refine qOp_mono (fun a' h3 => ih (listed.setIfInBounds j true) a' (inv.set hj hjn) hfree' (ready_mono hr (Ne.symm hji)) h3.1 ?_) h2
      rw [Array.setIfInBounds_comm _ _ hji]
      exact h3.2
theorem seqI_ready {n : Nat} {ts : List Nat} {listed : Array Bool} (h : seqI md ops ts listed = true) (ht : ∀ t ∈ ts, n ≤ t) : ∀ j ∈ Region.ready md ops listed, n ≤ j := by
  cases ts with
  | nil => intro j hj; simp only [seqI, List.isEmpty_iff] at h; rw [h] at hj; cases hj
  | cons t ts =>
    intro j hj
    simp only [seqI, Bool.and_eq_true, decide_eq_true_eq] at h
    rw [h.1] at hj
    obtain rfl : j = t := by simpa using hj
    exact ht _ List.mem_cons_self
theorem wpAnyQI_lex {n : Nat} {ts : List Nat} {l0 : Array Bool} {Lq : Act → Prop} (hsel : Region.noSelect ops = true) (hs : sinkI md ops n l0 = true) (hc : chainI md ops n l0 = true) (hn : n < ops.size) (hn0 : l0.getD n false = false) (ht : ∀ t ∈ ts, n ≤ t) :
    ∀ (hs' : List Nat) (l : List Oper) (listed : Array Bool) (a : Act), hs'.map (fun i => ops[i]?) = l.map some → (∀ i ∈ hs', i < n) → HeadI md ops n l0 listed →
    lexI md ops ts hs' listed = true → wpQuiet P ops C Lq l a →
    wpAnyQL P md ops C n (fun listed' a' => seqI md ops ts listed' = true ∧ Lq a') hs'.length listed a
  | [], [], listed, a, _, _, _, hB, h => ⟨by simpa [lexI] using hB, h⟩
  | [], _ :: _, _, _, hm, _, _, _, _ => by simp at hm
  | _ :: _, [], _, _, hm, _, _, _, _ => by simp at hm
  | k :: ks, o :: l, listed, a, hm, hlt, inv, hB, h => by
    simp only [List.map_cons, List.cons.injEq] at hm
    have h0 : ops[k]? = some o := hm.1
    simp only [lexI, Bool.and_eq_true] at hB
    obtain ⟨⟨hr, hf⟩, hB'⟩ := hB
    have hkn : k < n := hlt k List.mem_cons_self
    have hr' : k ∈ Region.ready md ops listed := by simpa using hr
    have hst : qOp P ops C k (wpQuiet P ops C Lq l) a := by unfold qOp; simp only [h0]; exact h
    obtain ⟨v, hy, hK⟩ := yieldsIn_of_qOp h0 hst
    exact wpAnyQI_first h0 (Region.noSelect_spec hsel) hs hc hn hn0 hkn (fun listed' a' hL => seqI_ready hL.1 ht) ks.length listed a inv (Region.free_spec h0 hf) hr' hy
      (wpAnyQI_lex hsel hs hc hn hn0 ht ks l _ _ hm.2 (fun i hi => hlt i (List.mem_cons_of_mem _ hi)) (inv.set hr' hkn) hB' hK)
theorem wpAny_of_seqI {Q' : Exit → Act → World → Prop} : ∀ (ts : List Nat) (l : List Oper) (listed : Array Bool) (a : Act) (w : World), ts.map (fun i => ops[i]?) = l.map some →
    seqI md ops ts listed = true → wpList P ops Q' l a w → wpAny P md ops Q' ts.length listed a w
  | [], [], _, _, _, _, hB, h => ⟨by simpa [seqI] using hB, h⟩
  | [], _ :: _, _, _, _, hm, _, _ => by simp at hm
  | _ :: _, [], _, _, _, hm, _, _ => by simp at hm
  | t :: ts, o :: l, listed, a, w, hm, hB, h => by
    simp only [List.map_cons, List.cons.injEq] at hm
    have h0 : ops[t]? = some o := hm.1
    simp only [seqI, Bool.and_eq_true, decide_eq_true_eq] at hB
    refine ⟨fun h1 => (by rw [hB.1] at h1; cases h1), fun i hi => ?_⟩
    rw [hB.1] at hi
    obtain rfl : i = t := by simpa using hi
    have hw : wpOp P ops Q' i (wpList P ops Q' l) a w := by unfold wpOp; simp only [h0]; exact h
    exact wpOp_mono (fun a' w' h' => wpAny_of_seqI ts l _ a' w' hm.2 hB.2 h') hw
def headTailB (ops : Array Oper) (n : Nat) (hs ts : List Nat) (l0 : Array Bool) : Bool :=
  Region.noSelect ops && (decide (n < ops.size) && (sinkI .any ops n l0 && (chainI .any ops n l0 && (closedI .any ops l0 && (!l0.getD n false && (decide (l0.size = ops.size) && (lexI .any ops ts hs l0 && (hs.all (fun i => decide (i < n)) && ts.all (fun t => decide (n ≤ t))))))))))
theorem wpAny_head_tail {Q' : Exit → Act → World → Prop} {fuel : Nat} {l0 : Array Bool} {a : Act} {w : World} (n : Nat) (hs ts : List Nat) (hd tl : List Oper) (hf : fuel = hs.length + ts.length) (hC : C w)
    (hB : headTailB ops n hs ts l0 = true) (hhd : hs.map (fun i => ops[i]?) = hd.map some) (htl : ts.map (fun i => ops[i]?) = tl.map some)
    (h : wpQuiet P ops C (fun a' => ∀ w', C w' → wpList P ops Q' tl a' w') hd a) : wpAny P .any ops Q' fuel l0 a w := by
  simp only [headTailB, Bool.and_eq_true, decide_eq_true_eq, Bool.not_eq_true', List.all_eq_true] at hB
  obtain ⟨hsel, hn, hsk, hch, hcl, hn0, hsz, hlex, hlt, hge⟩ := hB
  subst hf
  have inv0 : HeadI .any ops n l0 l0 := by
    refine ⟨hsz, fun j oj hj hl e he hb => ?_, fun t _ ht h0 => getD_in (by omega) h0, fun t h0 => h0⟩
    have hjlt := (Array.getElem?_eq_some_iff.1 hj).1
    have h1 := List.all_eq_true.1 hcl j (List.mem_range.2 hjlt)
    simp only [hl, hj, Bool.not_true, Bool.false_or, Option.map_some, Option.getD_some] at h1
    have h2 := (Array.all_eq_true'.1 h1) e he
    simpa [hb] using h2
  have H := wpAnyQI_lex (md := .any) (C := C) hsel hsk hch hn hn0 hge hs hd l0 a hhd hlt inv0 hlex h
  exact wpAny_of_headQ (Q' := Q') (g := ts.length) (fun listed a' w' hw' hL => wpAny_of_seqI ts tl listed a' w' htl hL.1 (hL.2 w' hw')) _ _ _ _ hC H
/-- a callee that leaves the world as it is, met in a world of the class -/
theorem regrown_same {f : FuncId} {args : Array Value} {w : World} {d : Nat} {os : Array Obj} {v : Value}
    (h : Calls P f args (Go.Sort.grow (redrawn w d) os) fun e w' => e = .returned v ∧ Go.Sort.grow (redrawn w d) os = w') : Calls P f args (Go.Sort.grow (redrawn w d) os) fun e w'' => e = .returned v ∧ ∃ p : Regrown, w'' = Go.Sort.grow (redrawn w p.d) p.os :=
  h.mono fun _ _ ⟨he, hb⟩ => ⟨he, ⟨⟨d, os⟩, hb.symm⟩⟩
end
end Go.Proofs.YtgeedjlbajmdkaaGreatDoor
namespace Go.Proofs.YtgeedjlbajmdkaaGreatDoor
open Go.RowKit

theorem StrR_any (e : ExR) (d : Nat) (line it : ByteArray) (wo : Option Addr) (wcap : Nat) (ws : List ByteArray) (each : Bool) (w : World) (hl : line.size ≤ 1000) (hi : it.size ≤ 1000) (hw : ∀ x ∈ ws, x.size ≤ 1000) (hws : ws.length ≤ 1000) (h : ExAt w d e.tree e.cells) (hsh : shE e.tree true each = true) (hn : e.tree.nodes ≤ 30) (hs : Sl 1 encS w wo ws) :
    Calls Tryz.prog 99 #[e.agg, .agg #[.string line, .string it, .slice wo ws.length wcap]] w fun q w' => q = .returned (.string (strE e.tree line it ws)) ∧ Below w.heap.size w w' :=
  Str_any line it wo wcap ws each hws (str_small hl hi hw) d e.k e.n e.s e.a e.ao e.cap w h hsh (by have : e.tree.nodes = (ExprV.mk e.k e.n e.s e.a).nodes := rfl; omega) hs
theorem IntR_any (e : ExR) (d : Nat) (line it : ByteArray) (wo : Option Addr) (wcap : Nat) (ws : List ByteArray) (each : Bool) (w : World) (hl : line.size ≤ 1000) (hi : it.size ≤ 1000) (hw : ∀ x ∈ ws, x.size ≤ 1000) (hws : ws.length ≤ 1000) (h : ExAt w d e.tree e.cells) (hsh : shE e.tree false each = true) (hn : e.tree.nodes ≤ 30) (hs : Sl 1 encS w wo ws) :
    Calls Tryz.prog 101 #[e.agg, .agg #[.string line, .string it, .slice wo ws.length wcap]] w fun q w' => q = .returned (.int .i64 (intE e.tree line it ws)) ∧ Below w.heap.size w w' :=
  Int_any line it wo wcap ws each hws (str_small hl hi hw) d e.k e.n e.s e.a e.ao e.cap w h hsh (by have : e.tree.nodes = (ExprV.mk e.k e.n e.s e.a).nodes := rfl; omega) hs
set_option maxRecDepth 100000 in
set_option maxHeartbeats 4000000 in
theorem one_any (r : RuleR) (d : Nat) (line it : ByteArray) (wo : Option Addr) (wcap : Nat) (ws : List ByteArray) (kind : Int) (w : World) (hr : RuleAt w d r) (hok : RuleOk r.v) (hl : line.size ≤ 1000) (hi : it.size ≤ 1000) (hw : ∀ x ∈ ws, x.size ≤ 1000) (hws : ws.length ≤ 1000) (hs : Sl 1 encS w wo ws) :
    Calls Tryz.prog 66 #[r.agg, .agg #[.string line, .string it, .slice wo ws.length wcap], .int .i64 kind] w fun e w' => (∃ p : Pr, e = .returned (.tuple #[.agg #[.string p.1, .int .i64 p.2], .bool (ifR r.v line it ws)]) ∧ (ifR r.v line it ws = true → p = pairR r.v kind line it ws)) ∧ Below w.heap.size w w' := by
  obtain ⟨W1, hW1⟩ : ∃ W, W = w.alloc (.cells #[.bool r.each, .int .i64 r.when_, .int .i64 r.cond.k, .int .i64 r.cond.n, .string r.cond.s, .slice r.cond.ao r.cond.a.length r.cond.cap, .string r.txt, .int .i64 r.key.k, .int .i64 r.key.n, .string r.key.s, .slice r.key.ao r.key.a.length r.key.cap, .int .i64 r.val.k, .int .i64 r.val.n, .string r.val.s, .slice r.val.ao r.val.a.length r.val.cap] 69) := ⟨_, rfl⟩
  obtain ⟨W2, hW2⟩ : ∃ W, W = W1.alloc (.cells #[.string line, .string it, .slice wo ws.length wcap] 109) := ⟨_, rfl⟩
  have hb1 : Below w.heap.size w W1 := by rw [hW1]; exact (Below.refl _ _).alloc (Nat.le_refl _) _
  have hb2 : Below W1.heap.size W1 W2 := by rw [hW2]; exact (Below.refl _ _).alloc (Nat.le_refl _) _
  have hbk : Bk W1 w.heap.size (encRule r) := by rw [hW1]; exact Bk.new rfl
  have hbx : Bk W2 W1.heap.size [.string line, .string it, .slice wo ws.length wcap] := by rw [hW2]; exact Bk.new rfl
  have hz1 : W1.heap.size = w.heap.size + 1 := by rw [hW1]; simp
  have hz2 : W2.heap.size = w.heap.size + 1 + 1 := by rw [hW2]; simp [hz1]
  have HB := hide (hb1.trans (hb2.mono hb1.size))
  have HBK := hide (hbk.later hb2)
  have HBX := hide hbx
  have HW1 := hide hW1
  have HW2 := hide hW2
  have HSC := hide fun w' (hb : Below w.heap.size w w') (h0 : r.when_ ≠ 0) => StrR_any r.cond d line it wo wcap ws r.each w' hl hi hw hws (hr.cond.later hb (Nat.le_refl _)) (hok.cond h0).2.2 (hok.cond h0).1 (hs.later hb (Nat.le_refl _))
  have HSV := hide fun w' (hb : Below w.heap.size w w') => IntR_any r.val d line it wo wcap ws r.each w' hl hi hw hws (hr.val.later hb (Nat.le_refl _)) hok.val.2.2 hok.val.1 (hs.later hb (Nat.le_refl _))
  have HSK := hide fun w' (hb : Below w.heap.size w w') => StrR_any r.key d line it wo wcap ws r.each w' hl hi hw hws (hr.key.later hb (Nat.le_refl _)) hok.key.2.2 hok.key.1 (hs.later hb (Nat.le_refl _))
  unfold ExR.agg at HSC HSK HSV
  clear hb1 hb2 hbk hbx hW1 hW2
  show Calls Tryz.prog 66 #[.agg #[.bool r.each, .int .i64 r.when_, .int .i64 r.cond.k, .int .i64 r.cond.n, .string r.cond.s, .slice r.cond.ao r.cond.a.length r.cond.cap, .string r.txt, .int .i64 r.key.k, .int .i64 r.key.n, .string r.key.s, .slice r.key.ao r.key.a.length r.key.cap, .int .i64 r.val.k, .int .i64 r.val.n, .string r.val.s, .slice r.val.ao r.val.a.length r.val.cap], .agg #[.string line, .string it, .slice wo ws.length wcap], .int .i64 kind] w _
  go_enter Tryz.func66, Tryz.ntmps66
  go_upto_region 1 with (fail)
  rw [← HW1.out, ← HW2.out]
  have hb3 : Below W2.heap.size W2 (W2.alloc (.cells #[.string ⟨#[]⟩, .int .i64 0] 101)) := (Below.refl _ _).alloc (Nat.le_refl _) _
  have HB3 := hide (HB.out.trans (hb3.mono HB.out.size))
  have HBK3 := hide (HBK.out.later hb3)
  have HBX3 := hide (HBX.out.later hb3)
  have HBR3 : Hid (Bk (W2.alloc (.cells #[.string ⟨#[]⟩, .int .i64 0] 101)) W2.heap.size [.string ⟨#[]⟩, .int .i64 0]) := Bk.new rfl
  rw [hz1] at HBX3
  rw [hz2] at HBR3
  clear hb3 HW1 HW2 HB HBK HBX hz1 hz2
  generalize W2.alloc (.cells #[.string ⟨#[]⟩, .int .i64 0] 101) = W3 at *
  have k0 := HBK3.out.get (j := 0) rfl
  have k1 := HBK3.out.get (j := 1) rfl
  have k2 := HBK3.out.get (j := 2) rfl
  have k3 := HBK3.out.get (j := 3) rfl
  have k4 := HBK3.out.get (j := 4) rfl
  have k5 := HBK3.out.get (j := 5) rfl
  have k6 := HBK3.out.get (j := 6) rfl
  have k7 := HBK3.out.get (j := 7) rfl
  have k8 := HBK3.out.get (j := 8) rfl
  have k9 := HBK3.out.get (j := 9) rfl
  have k10 := HBK3.out.get (j := 10) rfl
  have k11 := HBK3.out.get (j := 11) rfl
  have k12 := HBK3.out.get (j := 12) rfl
  have k13 := HBK3.out.get (j := 13) rfl
  have k14 := HBK3.out.get (j := 14) rfl
  have x0 := HBX3.out.get (j := 0) rfl
  have x1 := HBX3.out.get (j := 1) rfl
  have x2 := HBX3.out.get (j := 2) rfl
  by_cases h0 : r.when_ = 0
  · have g0 : (r.when_ != 0) = false := by simpa using h0
    have HIF : Hid (ifR r.v line it ws = true) := by show _ = _; unfold ifR; simp [RuleR.v, h0]
    have q1 := cell_regrown k1
    refine wp_region_quiet_below (by kernel_rfl) (by kernel_rfl) ?_
    repeat (go_big_quiet_step (fail))
    refine wpQuiet_nil ?_
    intro _ hw'
    obtain ⟨⟨dq, osq⟩, hw''⟩ := hw'
    subst hw''
    have hbg := below_regrown W3 dq osq
    have HB4 := hide (HB3.out.trans (hbg.mono HB3.out.size))
    have HBR4 := hide (HBR3.out.later hbg)
    have HBK4 := hide (HBK3.out.later hbg)
    have HBX4 := hide (HBX3.out.later hbg)
    clear k0 k1 k2 k3 k4 k5 k6 k7 k8 k9 k10 k11 k12 k13 k14 x0 x1 x2 q1 hbg HSC
    generalize Go.Sort.grow (redrawn W3 dq) osq = W4 at *
    have k7' := HBK4.out.get (j := 7) rfl
    have k8' := HBK4.out.get (j := 8) rfl
    have k9' := HBK4.out.get (j := 9) rfl
    have k10' := HBK4.out.get (j := 10) rfl
    have x0' := HBX4.out.get (j := 0) rfl
    have x1' := HBX4.out.get (j := 1) rfl
    have x2' := HBX4.out.get (j := 2) rfl
    go_wp2_with fail
    refine (HSK.out _ HB4.out).mono ?_
    rintro e w5 ⟨rfl, b5⟩
    replace HB4 := hide (HB4.out.trans (b5.mono HB4.out.size))
    replace HBR4 := hide (HBR4.out.later b5)
    replace HBK4 := hide (HBK4.out.later b5)
    replace HBX4 := hide (HBX4.out.later b5)
    clear b5 HSK k7' k8' k9' k10' x0' x1' x2'
    go_upto_region 4 with (fail)
    have k11' := cell_regrown (HBK4.out.get (j := 11) rfl)
    have k12' := cell_regrown (HBK4.out.get (j := 12) rfl)
    have k13' := cell_regrown (HBK4.out.get (j := 13) rfl)
    have k14' := cell_regrown (HBK4.out.get (j := 14) rfl)
    have x0' := cell_regrown (HBX4.out.get (j := 0) rfl)
    have x1' := cell_regrown (HBX4.out.get (j := 1) rfl)
    have x2' := cell_regrown (HBX4.out.get (j := 2) rfl)
    have HPR : Hid (pairR r.v kind line it ws = (cut20 (strE r.key.tree line it ws), first kind (intE r.val.tree line it ws))) := rfl
    obtain ⟨ks, hks⟩ : ∃ ks, strE r.key.tree line it ws = ks := ⟨_, rfl⟩
    obtain ⟨vi, hvi⟩ : ∃ vi, intE r.val.tree line it ws = vi := ⟨_, rfl⟩
    rw [hks, hvi] at HPR
    rw [hks]
    rw [hvi] at HSV
    clear hks hvi
    have m1 : (0 : Int) ≤ min (ks.size : Int) 20 := by omega
    have m2 : min (ks.size : Int) 20 ≤ (ks.size : Int) := by omega
    refine wp_region_below_tail 12 (by kernel_rfl) (by kernel_rfl) ?_
    simp only [List.take_succ_cons, List.take_zero, List.drop_succ_cons, List.drop_zero]
    repeat (go_big_quiet_step (first | (go_at_call 101; exact Calls.regrown_of (HSV.out _ (HB4.out.trans ((below_regrown _ _ _).mono HB4.out.size)))) | (go_at_call 100; exact regrown_same (First_any _ _ _))))
    refine wpQuiet_nil ?_
    intro _ hw'
    obtain ⟨⟨dq, osq⟩, hw''⟩ := hw'
    subst hw''
    have hbg := below_regrown w5 dq osq
    replace HB4 := hide (HB4.out.trans (hbg.mono HB4.out.size))
    replace HBR4 := hide (HBR4.out.later hbg)
    clear k11' k12' k13' k14' x0' x1' x2' HBK4 HBX4 hbg HSV m1 m2
    generalize Go.Sort.grow (redrawn w5 dq) osq = W6 at *
    have c0 := HBR4.out.get (j := 0) rfl
    have c1 := HBR4.out.get (j := 1) rfl
    have z0 := HBR4.out.fz 0
    have z1 := HBR4.out.fz 1
    have hk9 := (HBR4.out.set (k := 0) (u := .string ⟨#[]⟩) (.string (ks.extract 0 (min (ks.size : Int) 20).toNat)) rfl).set (k := 1) (u := .int .i64 0) (.int .i64 (first kind vi)) rfl
    have f0 := hk9.get (j := 0) rfl
    have f1 := hk9.get (j := 1) rfl
    have y0 := hk9.fz 0
    have y1 := hk9.fz 1
    have HB9 := hide ((HB4.out.setCell (p := ⟨w.heap.size + 1 + 1, 0, none⟩) (by show w.heap.size ≤ w.heap.size + 1 + 1; omega) (.string (ks.extract 0 (min (ks.size : Int) 20).toNat))).setCell (p := ⟨w.heap.size + 1 + 1, 1, none⟩) (by show w.heap.size ≤ w.heap.size + 1 + 1; omega) (.int .i64 (first kind vi)))
    have HCU : Hid (ks.extract 0 (min (ks.size : Int) 20).toNat = cut20 ks) := by show _ = _; unfold cut20; congr 1; omega
    clear hk9
    go_wp2
    exact bodyPost_ret (v := .tuple #[.agg #[.string (ks.extract 0 (min (ks.size : Int) 20).toNat), .int .i64 (first kind vi)], .bool true]) (by simp [results, Tryz.results66, go_sem, f0, f1, y0, y1]) rfl ⟨⟨(cut20 ks, first kind vi), by rw [HIF.out, HCU.out], fun _ => by rw [HPR.out]⟩, HB9.out⟩
  · have g0 : (r.when_ != 0) = true := by simpa using h0
    have HC := hide fun w' hb => HSC.out w' hb h0
    obtain ⟨so, hso⟩ : ∃ so, strE r.cond.tree line it ws = so := ⟨_, rfl⟩
    rw [hso] at HC
    have HIF0 : Hid (ifR r.v line it ws = (decide (so = r.txt) == decide (r.when_ = 1))) := by
      show _ = _
      unfold ifR
      rw [show (r.v.when_ == 0) = false from beq_eq_false_iff_ne.2 h0, show strE r.v.cond line it ws = so from hso]
      rfl
    clear hso HSC h0
    by_cases his : so = r.txt
    · have gi : (so.toList == r.txt.toList) = true := by rw [his]; exact beqq _
      by_cases hon : r.when_ = 1
      · have go1 : (r.when_ == 1) = true := by simpa using hon
        have HIF : Hid (ifR r.v line it ws = true) := by show _ = _; rw [HIF0.out]; simp [his, hon]
        clear his hon HIF0
        have q1 := cell_regrown k1
        have q2 := cell_regrown k2
        have q3 := cell_regrown k3
        have q4 := cell_regrown k4
        have q5 := cell_regrown k5
        have q6 := cell_regrown k6
        have y0 := cell_regrown x0
        have y1 := cell_regrown x1
        have y2 := cell_regrown x2
        refine wp_region_quiet_below (by kernel_rfl) (by kernel_rfl) ?_
        repeat (go_big_quiet_step (first | (go_at_call 99; exact Calls.regrown_of (HC.out _ (HB3.out.trans ((below_regrown _ _ _).mono HB3.out.size))))))
        refine wpQuiet_nil ?_
        intro _ hw'
        obtain ⟨⟨dq, osq⟩, hw''⟩ := hw'
        subst hw''
        have hbg := below_regrown W3 dq osq
        have HB4 := hide (HB3.out.trans (hbg.mono HB3.out.size))
        have HBR4 := hide (HBR3.out.later hbg)
        have HBK4 := hide (HBK3.out.later hbg)
        have HBX4 := hide (HBX3.out.later hbg)
        clear q1 q2 q3 q4 q5 q6 y0 y1 y2 hbg
        generalize Go.Sort.grow (redrawn W3 dq) osq = W4 at *
        clear k0 k1 k2 k3 k4 k5 k6 k7 k8 k9 k10 k11 k12 k13 k14 x0 x1 x2 HC
        have k7' := HBK4.out.get (j := 7) rfl
        have k8' := HBK4.out.get (j := 8) rfl
        have k9' := HBK4.out.get (j := 9) rfl
        have k10' := HBK4.out.get (j := 10) rfl
        have x0' := HBX4.out.get (j := 0) rfl
        have x1' := HBX4.out.get (j := 1) rfl
        have x2' := HBX4.out.get (j := 2) rfl
        go_wp2_with fail
        refine (HSK.out _ HB4.out).mono ?_
        rintro e w5 ⟨rfl, b5⟩
        replace HB4 := hide (HB4.out.trans (b5.mono HB4.out.size))
        replace HBR4 := hide (HBR4.out.later b5)
        replace HBK4 := hide (HBK4.out.later b5)
        replace HBX4 := hide (HBX4.out.later b5)
        clear b5 HSK k7' k8' k9' k10' x0' x1' x2'
        go_upto_region 4 with (fail)
        have k11' := cell_regrown (HBK4.out.get (j := 11) rfl)
        have k12' := cell_regrown (HBK4.out.get (j := 12) rfl)
        have k13' := cell_regrown (HBK4.out.get (j := 13) rfl)
        have k14' := cell_regrown (HBK4.out.get (j := 14) rfl)
        have x0' := cell_regrown (HBX4.out.get (j := 0) rfl)
        have x1' := cell_regrown (HBX4.out.get (j := 1) rfl)
        have x2' := cell_regrown (HBX4.out.get (j := 2) rfl)
        have HPR : Hid (pairR r.v kind line it ws = (cut20 (strE r.key.tree line it ws), first kind (intE r.val.tree line it ws))) := rfl
        obtain ⟨ks, hks⟩ : ∃ ks, strE r.key.tree line it ws = ks := ⟨_, rfl⟩
        obtain ⟨vi, hvi⟩ : ∃ vi, intE r.val.tree line it ws = vi := ⟨_, rfl⟩
        rw [hks, hvi] at HPR
        rw [hks]
        rw [hvi] at HSV
        clear hks hvi
        have m1 : (0 : Int) ≤ min (ks.size : Int) 20 := by omega
        have m2 : min (ks.size : Int) 20 ≤ (ks.size : Int) := by omega
        refine wp_region_below_tail 12 (by kernel_rfl) (by kernel_rfl) ?_
        simp only [List.take_succ_cons, List.take_zero, List.drop_succ_cons, List.drop_zero]
        repeat (go_big_quiet_step (first | (go_at_call 101; exact Calls.regrown_of (HSV.out _ (HB4.out.trans ((below_regrown _ _ _).mono HB4.out.size)))) | (go_at_call 100; exact regrown_same (First_any _ _ _))))
        refine wpQuiet_nil ?_
        intro _ hw'
        obtain ⟨⟨dq, osq⟩, hw''⟩ := hw'
        subst hw''
        have hbg := below_regrown w5 dq osq
        replace HB4 := hide (HB4.out.trans (hbg.mono HB4.out.size))
        replace HBR4 := hide (HBR4.out.later hbg)
        clear k11' k12' k13' k14' x0' x1' x2' HBK4 HBX4 hbg HSV m1 m2
        generalize Go.Sort.grow (redrawn w5 dq) osq = W6 at *
        have c0 := HBR4.out.get (j := 0) rfl
        have c1 := HBR4.out.get (j := 1) rfl
        have z0 := HBR4.out.fz 0
        have z1 := HBR4.out.fz 1
        have hk9 := (HBR4.out.set (k := 0) (u := .string ⟨#[]⟩) (.string (ks.extract 0 (min (ks.size : Int) 20).toNat)) rfl).set (k := 1) (u := .int .i64 0) (.int .i64 (first kind vi)) rfl
        have f0 := hk9.get (j := 0) rfl
        have f1 := hk9.get (j := 1) rfl
        have y0 := hk9.fz 0
        have y1 := hk9.fz 1
        have HB9 := hide ((HB4.out.setCell (p := ⟨w.heap.size + 1 + 1, 0, none⟩) (by show w.heap.size ≤ w.heap.size + 1 + 1; omega) (.string (ks.extract 0 (min (ks.size : Int) 20).toNat))).setCell (p := ⟨w.heap.size + 1 + 1, 1, none⟩) (by show w.heap.size ≤ w.heap.size + 1 + 1; omega) (.int .i64 (first kind vi)))
        have HCU : Hid (ks.extract 0 (min (ks.size : Int) 20).toNat = cut20 ks) := by show _ = _; unfold cut20; congr 1; omega
        clear hk9
        go_wp2
        exact bodyPost_ret (v := .tuple #[.agg #[.string (ks.extract 0 (min (ks.size : Int) 20).toNat), .int .i64 (first kind vi)], .bool true]) (by simp [results, Tryz.results66, go_sem, f0, f1, y0, y1]) rfl ⟨⟨(cut20 ks, first kind vi), by rw [HIF.out, HCU.out], fun _ => by rw [HPR.out]⟩, HB9.out⟩
      · have go1 : (r.when_ == 1) = false := by simpa using hon
        have HIF : Hid (ifR r.v line it ws = false) := by show _ = _; rw [HIF0.out]; simp [his, hon]
        clear his hon HIF0
        have q1 := cell_regrown k1
        have q2 := cell_regrown k2
        have q3 := cell_regrown k3
        have q4 := cell_regrown k4
        have q5 := cell_regrown k5
        have q6 := cell_regrown k6
        have y0 := cell_regrown x0
        have y1 := cell_regrown x1
        have y2 := cell_regrown x2
        refine wp_region_quiet_below (by kernel_rfl) (by kernel_rfl) ?_
        repeat (go_big_quiet_step (first | (go_at_call 99; exact Calls.regrown_of (HC.out _ (HB3.out.trans ((below_regrown _ _ _).mono HB3.out.size))))))
        refine wpQuiet_nil ?_
        intro _ hw'
        obtain ⟨⟨dq, osq⟩, hw''⟩ := hw'
        subst hw''
        have hbg := below_regrown W3 dq osq
        have HB4 := hide (HB3.out.trans (hbg.mono HB3.out.size))
        have HBR4 := hide (HBR3.out.later hbg)
        have HBK4 := hide (HBK3.out.later hbg)
        have HBX4 := hide (HBX3.out.later hbg)
        clear q1 q2 q3 q4 q5 q6 y0 y1 y2 hbg
        generalize Go.Sort.grow (redrawn W3 dq) osq = W4 at *
        have c0 := HBR4.out.get (j := 0) rfl
        have c1 := HBR4.out.get (j := 1) rfl
        have z0 := HBR4.out.fz 0
        have z1 := HBR4.out.fz 1
        have hk9 := (HBR4.out.set (k := 0) (u := .string ⟨#[]⟩) (.string ⟨#[]⟩) rfl).set (k := 1) (u := .int .i64 0) (.int .i64 0) rfl
        have f0 := hk9.get (j := 0) rfl
        have f1 := hk9.get (j := 1) rfl
        have y0 := hk9.fz 0
        have y1 := hk9.fz 1
        have HB9 := hide ((HB4.out.setCell (p := ⟨w.heap.size + 1 + 1, 0, none⟩) (by show w.heap.size ≤ w.heap.size + 1 + 1; omega) (.string ⟨#[]⟩)).setCell (p := ⟨w.heap.size + 1 + 1, 1, none⟩) (by show w.heap.size ≤ w.heap.size + 1 + 1; omega) (.int .i64 0))
        clear hk9 HC
        go_wp2
        exact bodyPost_ret (v := .tuple #[.agg #[.string ⟨#[]⟩, .int .i64 0], .bool false]) (by simp [results, Tryz.results66, go_sem, f0, f1, y0, y1]) rfl ⟨⟨(⟨#[]⟩, 0), by rw [HIF.out], fun h => by rw [HIF.out] at h; cases h⟩, HB9.out⟩
    · have gi : (so.toList == r.txt.toList) = false := bneq his
      by_cases hon : r.when_ = 1
      · have go1 : (r.when_ == 1) = true := by simpa using hon
        have HIF : Hid (ifR r.v line it ws = false) := by show _ = _; rw [HIF0.out]; simp [his, hon]
        clear his hon HIF0
        have q1 := cell_regrown k1
        have q2 := cell_regrown k2
        have q3 := cell_regrown k3
        have q4 := cell_regrown k4
        have q5 := cell_regrown k5
        have q6 := cell_regrown k6
        have y0 := cell_regrown x0
        have y1 := cell_regrown x1
        have y2 := cell_regrown x2
        refine wp_region_quiet_below (by kernel_rfl) (by kernel_rfl) ?_
        repeat (go_big_quiet_step (first | (go_at_call 99; exact Calls.regrown_of (HC.out _ (HB3.out.trans ((below_regrown _ _ _).mono HB3.out.size))))))
        refine wpQuiet_nil ?_
        intro _ hw'
        obtain ⟨⟨dq, osq⟩, hw''⟩ := hw'
        subst hw''
        have hbg := below_regrown W3 dq osq
        have HB4 := hide (HB3.out.trans (hbg.mono HB3.out.size))
        have HBR4 := hide (HBR3.out.later hbg)
        have HBK4 := hide (HBK3.out.later hbg)
        have HBX4 := hide (HBX3.out.later hbg)
        clear q1 q2 q3 q4 q5 q6 y0 y1 y2 hbg
        generalize Go.Sort.grow (redrawn W3 dq) osq = W4 at *
        have c0 := HBR4.out.get (j := 0) rfl
        have c1 := HBR4.out.get (j := 1) rfl
        have z0 := HBR4.out.fz 0
        have z1 := HBR4.out.fz 1
        have hk9 := (HBR4.out.set (k := 0) (u := .string ⟨#[]⟩) (.string ⟨#[]⟩) rfl).set (k := 1) (u := .int .i64 0) (.int .i64 0) rfl
        have f0 := hk9.get (j := 0) rfl
        have f1 := hk9.get (j := 1) rfl
        have y0 := hk9.fz 0
        have y1 := hk9.fz 1
        have HB9 := hide ((HB4.out.setCell (p := ⟨w.heap.size + 1 + 1, 0, none⟩) (by show w.heap.size ≤ w.heap.size + 1 + 1; omega) (.string ⟨#[]⟩)).setCell (p := ⟨w.heap.size + 1 + 1, 1, none⟩) (by show w.heap.size ≤ w.heap.size + 1 + 1; omega) (.int .i64 0))
        clear hk9 HC
        go_wp2
        exact bodyPost_ret (v := .tuple #[.agg #[.string ⟨#[]⟩, .int .i64 0], .bool false]) (by simp [results, Tryz.results66, go_sem, f0, f1, y0, y1]) rfl ⟨⟨(⟨#[]⟩, 0), by rw [HIF.out], fun h => by rw [HIF.out] at h; cases h⟩, HB9.out⟩
      · have go1 : (r.when_ == 1) = false := by simpa using hon
        have HIF : Hid (ifR r.v line it ws = true) := by show _ = _; rw [HIF0.out]; simp [his, hon]
        clear his hon HIF0
        have q1 := cell_regrown k1
        have q2 := cell_regrown k2
        have q3 := cell_regrown k3
        have q4 := cell_regrown k4
        have q5 := cell_regrown k5
        have q6 := cell_regrown k6
        have y0 := cell_regrown x0
        have y1 := cell_regrown x1
        have y2 := cell_regrown x2
        refine wp_region_quiet_below (by kernel_rfl) (by kernel_rfl) ?_
        repeat (go_big_quiet_step (first | (go_at_call 99; exact Calls.regrown_of (HC.out _ (HB3.out.trans ((below_regrown _ _ _).mono HB3.out.size))))))
        refine wpQuiet_nil ?_
        intro _ hw'
        obtain ⟨⟨dq, osq⟩, hw''⟩ := hw'
        subst hw''
        have hbg := below_regrown W3 dq osq
        have HB4 := hide (HB3.out.trans (hbg.mono HB3.out.size))
        have HBR4 := hide (HBR3.out.later hbg)
        have HBK4 := hide (HBK3.out.later hbg)
        have HBX4 := hide (HBX3.out.later hbg)
        clear q1 q2 q3 q4 q5 q6 y0 y1 y2 hbg
        generalize Go.Sort.grow (redrawn W3 dq) osq = W4 at *
        clear k0 k1 k2 k3 k4 k5 k6 k7 k8 k9 k10 k11 k12 k13 k14 x0 x1 x2 HC
        have k7' := HBK4.out.get (j := 7) rfl
        have k8' := HBK4.out.get (j := 8) rfl
        have k9' := HBK4.out.get (j := 9) rfl
        have k10' := HBK4.out.get (j := 10) rfl
        have x0' := HBX4.out.get (j := 0) rfl
        have x1' := HBX4.out.get (j := 1) rfl
        have x2' := HBX4.out.get (j := 2) rfl
        go_wp2_with fail
        refine (HSK.out _ HB4.out).mono ?_
        rintro e w5 ⟨rfl, b5⟩
        replace HB4 := hide (HB4.out.trans (b5.mono HB4.out.size))
        replace HBR4 := hide (HBR4.out.later b5)
        replace HBK4 := hide (HBK4.out.later b5)
        replace HBX4 := hide (HBX4.out.later b5)
        clear b5 HSK k7' k8' k9' k10' x0' x1' x2'
        go_upto_region 4 with (fail)
        have k11' := cell_regrown (HBK4.out.get (j := 11) rfl)
        have k12' := cell_regrown (HBK4.out.get (j := 12) rfl)
        have k13' := cell_regrown (HBK4.out.get (j := 13) rfl)
        have k14' := cell_regrown (HBK4.out.get (j := 14) rfl)
        have x0' := cell_regrown (HBX4.out.get (j := 0) rfl)
        have x1' := cell_regrown (HBX4.out.get (j := 1) rfl)
        have x2' := cell_regrown (HBX4.out.get (j := 2) rfl)
        have HPR : Hid (pairR r.v kind line it ws = (cut20 (strE r.key.tree line it ws), first kind (intE r.val.tree line it ws))) := rfl
        obtain ⟨ks, hks⟩ : ∃ ks, strE r.key.tree line it ws = ks := ⟨_, rfl⟩
        obtain ⟨vi, hvi⟩ : ∃ vi, intE r.val.tree line it ws = vi := ⟨_, rfl⟩
        rw [hks, hvi] at HPR
        rw [hks]
        rw [hvi] at HSV
        clear hks hvi
        have m1 : (0 : Int) ≤ min (ks.size : Int) 20 := by omega
        have m2 : min (ks.size : Int) 20 ≤ (ks.size : Int) := by omega
        refine wp_region_below_tail 12 (by kernel_rfl) (by kernel_rfl) ?_
        simp only [List.take_succ_cons, List.take_zero, List.drop_succ_cons, List.drop_zero]
        repeat (go_big_quiet_step (first | (go_at_call 101; exact Calls.regrown_of (HSV.out _ (HB4.out.trans ((below_regrown _ _ _).mono HB4.out.size)))) | (go_at_call 100; exact regrown_same (First_any _ _ _))))
        refine wpQuiet_nil ?_
        intro _ hw'
        obtain ⟨⟨dq, osq⟩, hw''⟩ := hw'
        subst hw''
        have hbg := below_regrown w5 dq osq
        replace HB4 := hide (HB4.out.trans (hbg.mono HB4.out.size))
        replace HBR4 := hide (HBR4.out.later hbg)
        clear k11' k12' k13' k14' x0' x1' x2' HBK4 HBX4 hbg HSV m1 m2
        generalize Go.Sort.grow (redrawn w5 dq) osq = W6 at *
        have c0 := HBR4.out.get (j := 0) rfl
        have c1 := HBR4.out.get (j := 1) rfl
        have z0 := HBR4.out.fz 0
        have z1 := HBR4.out.fz 1
        have hk9 := (HBR4.out.set (k := 0) (u := .string ⟨#[]⟩) (.string (ks.extract 0 (min (ks.size : Int) 20).toNat)) rfl).set (k := 1) (u := .int .i64 0) (.int .i64 (first kind vi)) rfl
        have f0 := hk9.get (j := 0) rfl
        have f1 := hk9.get (j := 1) rfl
        have y0 := hk9.fz 0
        have y1 := hk9.fz 1
        have HB9 := hide ((HB4.out.setCell (p := ⟨w.heap.size + 1 + 1, 0, none⟩) (by show w.heap.size ≤ w.heap.size + 1 + 1; omega) (.string (ks.extract 0 (min (ks.size : Int) 20).toNat))).setCell (p := ⟨w.heap.size + 1 + 1, 1, none⟩) (by show w.heap.size ≤ w.heap.size + 1 + 1; omega) (.int .i64 (first kind vi)))
        have HCU : Hid (ks.extract 0 (min (ks.size : Int) 20).toNat = cut20 ks) := by show _ = _; unfold cut20; congr 1; omega
        clear hk9
        go_wp2
        exact bodyPost_ret (v := .tuple #[.agg #[.string (ks.extract 0 (min (ks.size : Int) 20).toNat), .int .i64 (first kind vi)], .bool true]) (by simp [results, Tryz.results66, go_sem, f0, f1, y0, y1]) rfl ⟨⟨(cut20 ks, first kind vi), by rw [HIF.out, HCU.out], fun _ => by rw [HPR.out]⟩, HB9.out⟩
end Go.Proofs.YtgeedjlbajmdkaaGreatDoor
/- A region that draws its order, met by hand: loads are taken first under a condition on the world that need not hold any more behind the operations (E) that wait for all of them. Over any program. -/
namespace Go.Proofs.YtgeedjlbajmdkaaGreatDoor
open Go.RowKit

section
variable {P : Program} {ops : Array Oper} {md : Region.Mode} {Q : Exit → Act → World → Prop} {S : World → Prop} {E : List Nat}
def wpAnyHE (P : Program) (md : Region.Mode) (ops : Array Oper) (Q : Exit → Act → World → Prop) (S : World → Prop) (E : List Nat) : Nat → Array Bool → Act → World → Prop
  | 0, listed, a, w => Region.ready md ops listed = [] ∧ Q .normal a w
  | fuel + 1, listed, a, w =>
    (Region.ready md ops listed = [] → Q .normal a w) ∧
    ∀ i ∈ Region.ready md ops listed, wpOp P ops Q i (fun a' w' => (E.contains i = false → S w → S w') ∧ wpAnyHE P md ops Q S E fuel (listed.setIfInBounds i true) a' w') a w
theorem wpAny_of_HE : ∀ (fuel : Nat) (listed : Array Bool) (a : Act) (w : World), wpAnyHE P md ops Q S E fuel listed a w → wpAny P md ops Q fuel listed a w
  | 0, _, _, _, h => h
  | fuel + 1, _, _, _, h => ⟨h.1, fun i hi => wpOp_mono (fun a' w' h' => wpAny_of_HE fuel _ a' w' h'.2) (h.2 i hi)⟩
/-- each waits for the next -/
def pathW (md : Region.Mode) (ops : Array Oper) : List Nat → Bool
  | j :: i :: r => Region.waitsFor md ops j i && pathW md ops (i :: r)
  | _ => true
def Closed (md : Region.Mode) (ops : Array Oper) (listed : Array Bool) : Prop := ∀ (j : Nat) oj, ops[j]? = some oj → listed.getD j false = true → ∀ e ∈ oj.after, Region.binds md e = true → listed.getD e.on false = true
theorem Closed.of {listed : Array Bool} (h : closedI md ops listed = true) : Closed md ops listed := fun j oj hj hl e he hb => by
  have hjlt := (Array.getElem?_eq_some_iff.1 hj).1
  have h1 := List.all_eq_true.1 h j (List.mem_range.2 hjlt)
  simp only [hl, hj, Bool.not_true, Bool.false_or, Option.map_some, Option.getD_some] at h1
  have h2 := (Array.all_eq_true'.1 h1) e he
  simpa [hb] using h2
theorem Closed.set {listed : Array Bool} {i : Nat} (h : Closed md ops listed) (hi : i ∈ Region.ready md ops listed) : Closed md ops (listed.setIfInBounds i true) := fun j oj hj hl e he hb => by
  obtain ⟨_, oi, hoi, hall⟩ := mem_ready.1 hi
  by_cases hij : i = j
  · subst hij
    have : oj = oi := Option.some.inj (hj.symm.trans hoi)
    subst this
    exact getD_set_true (hall e he hb)
  · rw [getD_set_ne false hij] at hl
    exact getD_set_true (h j oj hj hl e he hb)
theorem path_listed {listed : Array Bool} (hc : Closed md ops listed) : ∀ (l : List Nat) (j : Nat), listed.getD j false = true → pathW md ops (j :: l) = true → ∀ i ∈ l, listed.getD i false = true
  | [], _, _, _, i, hi => by cases hi
  | k :: l, j, hj, hp, i, hi => by
    simp only [pathW, Bool.and_eq_true] at hp
    obtain ⟨oj, hoj, e, he, hb, hon⟩ := Region.waitsFor_spec hp.1
    have hk : listed.getD k false = true := hon ▸ hc j oj hoj hj e he hb
    rcases List.mem_cons.1 hi with rfl | hi
    · exact hk
    · exact path_listed hc l k hk hp.2 i hi
theorem path_ready {listed : Array Bool} (hc : Closed md ops listed) {j : Nat} (hj : j ∈ Region.ready md ops listed) : ∀ {l : List Nat}, pathW md ops (j :: l) = true → ∀ i ∈ l, listed.getD i false = true
  | [], _, i, hi => by cases hi
  | k :: l, hp, i, hi => by
    simp only [pathW, Bool.and_eq_true] at hp
    obtain ⟨oj, hoj, e, he, hb, hon⟩ := Region.waitsFor_spec hp.1
    obtain ⟨_, oj', hoj', hall⟩ := mem_ready.1 hj
    have : oj = oj' := Option.some.inj (hoj.symm.trans hoj')
    subst this
    have hk : listed.getD k false = true := hon ▸ hall e he hb
    rcases List.mem_cons.1 hi with rfl | hi
    · exact hk
    · exact path_listed hc l k hk hp.2 i hi
def pathsB (md : Region.Mode) (ops : Array Oper) (i : Nat) : List Nat → List (List Nat) → Bool
  | [], _ => true
  | e :: E, p :: ps => pathW md ops (e :: p) && (p.contains i && pathsB md ops i E ps)
  | _ :: _, [] => false
theorem pathsB_of {i : Nat} : ∀ {E : List Nat} {ps : List (List Nat)}, pathsB md ops i E ps = true → ∀ j ∈ E, ∃ p, pathW md ops (j :: p) = true ∧ i ∈ p
  | [], _, _, j, hj => by cases hj
  | e :: E, [], h, _, _ => by simp [pathsB] at h
  | e :: E, p :: ps, h, j, hj => by
    simp only [pathsB, Bool.and_eq_true] at h
    rcases List.mem_cons.1 hj with rfl | hj
    · exact ⟨p, h.1, by simpa using h.2.1⟩
    · exact pathsB_of h.2.2 j hj
theorem wpAnyHE_first {i : Nat} {oi : Oper} {v : Value} (hi : ops[i]? = some oi) (hsel : ∀ (j : Nat) (o : Oper) cs b, ops[j]? = some o → o.op ≠ .select cs b)
    (hQ : ∀ c a w, Q (.panic c) (a.put oi.dst v) w → Q (.panic c) a w) (hE : ∀ j ∈ E, ∃ p, pathW md ops (j :: p) = true ∧ i ∈ p) :
    ∀ (fuel : Nat) (listed : Array Bool) (a : Act) (w : World), Closed md ops listed →
      (∀ j oj, ops[j]? = some oj → j ≠ i → listed.getD j true = false → (∀ e ∈ oj.after, Region.binds md e = true → e.on ≠ i) → oi.apart ops oj = true) →
      i ∈ Region.ready md ops listed → YieldsIf P ops S oi v a → S w →
      wpAnyHE P md ops Q S E fuel (listed.setIfInBounds i true) (a.put oi.dst v) w → wpAnyHE P md ops Q S E (fuel + 1) listed a w := by
  intro fuel
  induction fuel with
  | zero =>
    intro listed a w _ _ hr hy hS H
    refine ⟨fun h => (by rw [h] at hr; cases hr), fun j hj => ?_⟩
    by_cases hji : j = i
    · subst hji; exact hy.wpOp hi hS ⟨fun _ h => h, H⟩
    · have := ready_mono hj hji
      rw [H.1] at this
      cases this
  | succ fuel ih =>
    intro listed a w hcl hfree hr hy hS H
    refine ⟨fun h => (by rw [h] at hr; cases hr), fun j hj => ?_⟩
    by_cases hji : j = i
    · subst hji; exact hy.wpOp hi hS ⟨fun _ h => h, H⟩
    · have h1 := H.2 j (ready_mono hj hji)
      obtain ⟨hjun, oj, hoj, hall⟩ := mem_ready.1 hj
      have hiun := (mem_ready.1 hr).1
      have hnot : ∀ e ∈ oj.after, Region.binds md e = true → e.on ≠ i := fun e he hb heq => by
        have h1 := hall e he hb
        rw [heq, getD_both hiun] at h1
        cases h1
      have hjE : E.contains j = false := by
        rw [Bool.eq_false_iff]
        intro h
        obtain ⟨p, hp, hip⟩ := hE j (by simpa using h)
        have := path_ready hcl hj hp i hip
        rw [getD_both hiun] at this
        cases this
      have h2 := wpOp_putIf hoj (hfree j oj hoj hji hjun hnot) (fun cs b => hsel i oi cs b hi) (fun cs b => hsel j oj cs b hoj) hQ hy h1
      have hfree' : ∀ k ok, ops[k]? = some ok → k ≠ i → (listed.setIfInBounds j true).getD k true = false →
          (∀ e ∈ ok.after, Region.binds md e = true → e.on ≠ i) → oi.apart ops ok = true := fun k ok hk hki hun hno => by
        refine hfree k ok hk hki ?_ hno
        by_cases hjk : j = k
        · subst hjk; exact hjun
        · rw [getD_set_ne true hjk] at hun; exact hun
      refine wpOp_mono (fun a' w' h3 => ⟨h3.2.1, ih (listed.setIfInBounds j true) a' w' (hcl.set hj) hfree' (ready_mono hr (Ne.symm hji)) h3.1 (h3.2.1 hjE hS) ?_⟩) h2
      rw [Array.setIfInBounds_comm _ _ hji]
      exact h3.2.2
/-- one that hangs on no world -/
theorem wpAnyHE_firstP {i : Nat} {oi : Oper} {v : Value} (hi : ops[i]? = some oi) (hsel : ∀ (j : Nat) (o : Oper) cs b, ops[j]? = some o → o.op ≠ .select cs b)
    (hQ : ∀ c a w, Q (.panic c) (a.put oi.dst v) w → Q (.panic c) a w) :
    ∀ (fuel : Nat) (listed : Array Bool) (a : Act) (w : World),
      (∀ j oj, ops[j]? = some oj → j ≠ i → listed.getD j true = false → (∀ e ∈ oj.after, Region.binds md e = true → e.on ≠ i) → oi.apart ops oj = true) →
      i ∈ Region.ready md ops listed → YieldsIf P ops (fun _ => True) oi v a →
      wpAnyHE P md ops Q S E fuel (listed.setIfInBounds i true) (a.put oi.dst v) w → wpAnyHE P md ops Q S E (fuel + 1) listed a w := by
  intro fuel
  induction fuel with
  | zero =>
    intro listed a w _ hr hy H
    refine ⟨fun h => (by rw [h] at hr; cases hr), fun j hj => ?_⟩
    by_cases hji : j = i
    · subst hji; exact hy.wpOp hi trivial ⟨fun _ h => h, H⟩
    · have := ready_mono hj hji
      rw [H.1] at this
      cases this
  | succ fuel ih =>
    intro listed a w hfree hr hy H
    refine ⟨fun h => (by rw [h] at hr; cases hr), fun j hj => ?_⟩
    by_cases hji : j = i
    · subst hji; exact hy.wpOp hi trivial ⟨fun _ h => h, H⟩
    · have h1 := H.2 j (ready_mono hj hji)
      obtain ⟨hjun, oj, hoj, hall⟩ := mem_ready.1 hj
      have hiun := (mem_ready.1 hr).1
      have hnot : ∀ e ∈ oj.after, Region.binds md e = true → e.on ≠ i := fun e he hb heq => by
        have h1 := hall e he hb
        rw [heq, getD_both hiun] at h1
        cases h1
      have h2 := wpOp_putIf hoj (hfree j oj hoj hji hjun hnot) (fun cs b => hsel i oi cs b hi) (fun cs b => hsel j oj cs b hoj) hQ hy h1
      have hfree' : ∀ k ok, ops[k]? = some ok → k ≠ i → (listed.setIfInBounds j true).getD k true = false →
          (∀ e ∈ ok.after, Region.binds md e = true → e.on ≠ i) → oi.apart ops ok = true := fun k ok hk hki hun hno => by
        refine hfree k ok hk hki ?_ hno
        by_cases hjk : j = k
        · subst hjk; exact hjun
        · rw [getD_set_ne true hjk] at hun; exact hun
      refine wpOp_mono (fun a' w' h3 => ⟨h3.2.1, ih (listed.setIfInBounds j true) a' w' hfree' (ready_mono hr (Ne.symm hji)) h3.1 ?_⟩) h2
      rw [Array.setIfInBounds_comm _ _ hji]
      exact h3.2.2
theorem wpAnyHE_take {i : Nat} {oi : Oper} {v : Value} {fuel : Nat} {listed : Array Bool} {a : Act} {w : World} (ps : List (List Nat)) (hi : ops[i]? = some oi)
    (hs : Region.noSelect ops = true) (hf : Region.free md ops listed i = true) (hr : (Region.ready md ops listed).contains i = true) (hcl : closedI md ops listed = true) (hps : pathsB md ops i E ps = true)
    (hQ : ∀ c a w, Q (.panic c) (a.put oi.dst v) w → Q (.panic c) a w) (hy : YieldsIf P ops S oi v a) (hS : S w)
    (h : wpAnyHE P md ops Q S E fuel (listed.setIfInBounds i true) (a.put oi.dst v) w) : wpAnyHE P md ops Q S E (fuel + 1) listed a w :=
  wpAnyHE_first hi (Region.noSelect_spec hs) hQ (pathsB_of hps) fuel listed a w (Closed.of hcl) (Region.free_spec hi hf) (by simpa using hr) hy hS h
theorem wpAnyHE_takeP {i : Nat} {oi : Oper} {v : Value} {fuel : Nat} {listed : Array Bool} {a : Act} {w : World} (hi : ops[i]? = some oi)
    (hs : Region.noSelect ops = true) (hf : Region.free md ops listed i = true) (hr : (Region.ready md ops listed).contains i = true)
    (hQ : ∀ c a w, Q (.panic c) (a.put oi.dst v) w → Q (.panic c) a w) (hy : YieldsIf P ops (fun _ => True) oi v a)
    (h : wpAnyHE P md ops Q S E fuel (listed.setIfInBounds i true) (a.put oi.dst v) w) : wpAnyHE P md ops Q S E (fuel + 1) listed a w :=
  wpAnyHE_firstP hi (Region.noSelect_spec hs) hQ fuel listed a w (Region.free_spec hi hf) (by simpa using hr) hy h
theorem wpAnyHE_done {listed : Array Bool} {a : Act} {w : World} (hr : Region.ready md ops listed = []) (h : Q .normal a w) :
    ∀ fuel, wpAnyHE P md ops Q S E fuel listed a w
  | 0 => ⟨hr, h⟩
  | _ + 1 => ⟨fun _ => h, by rw [hr]; simp⟩
def AllReadyE (P : Program) (md : Region.Mode) (ops : Array Oper) (Q : Exit → Act → World → Prop) (S : World → Prop) (E : List Nat) (fuel : Nat) (listed : Array Bool) (a : Act) (w : World) (rs : List Nat) : Prop :=
  ∀ i ∈ rs, wpOp P ops Q i (fun a' w' => (E.contains i = false → S w → S w') ∧ wpAnyHE P md ops Q S E fuel (listed.setIfInBounds i true) a' w') a w
theorem AllReadyE.nil {fuel : Nat} {listed : Array Bool} {a : Act} {w : World} : AllReadyE P md ops Q S E fuel listed a w [] := fun _ h => by cases h
theorem AllReadyE.cons {fuel : Nat} {listed : Array Bool} {a : Act} {w : World} {i : Nat} {o : Oper} {rs : List Nat} (ho : ops[i]? = some o)
    (h : ∀ K' : Act → World → Prop, Shut (∀ a w, S w → (S w → wpAnyHE P md ops Q S E fuel (listed.setIfInBounds i true) a w) → K' a w) → if Region.wanted o (yielded ops a.tmps) = true then Oper.wp P o a w K' Q else K' (a.put o.dst undef) w)
    (hs : AllReadyE P md ops Q S E fuel listed a w rs) : AllReadyE P md ops Q S E fuel listed a w (i :: rs) := fun j hj => by
  rcases List.mem_cons.1 hj with rfl | hj
  · exact wpOp_step ho (fun K' hK => h K' (fun a w hS hW => hK a w ⟨fun _ _ => hS, hW hS⟩))
  · exact hs j hj
/-- one of E: the condition need not hold behind it -/
theorem AllReadyE.consE {fuel : Nat} {listed : Array Bool} {a : Act} {w : World} {i : Nat} {o : Oper} {rs : List Nat} (ho : ops[i]? = some o) (hi : E.contains i = true)
    (h : ∀ K' : Act → World → Prop, Shut (∀ a w, wpAnyHE P md ops Q S E fuel (listed.setIfInBounds i true) a w → K' a w) → if Region.wanted o (yielded ops a.tmps) = true then Oper.wp P o a w K' Q else K' (a.put o.dst undef) w)
    (hs : AllReadyE P md ops Q S E fuel listed a w rs) : AllReadyE P md ops Q S E fuel listed a w (i :: rs) := fun j hj => by
  rcases List.mem_cons.1 hj with rfl | hj
  · exact wpOp_step ho (fun K' hK => h K' (fun a w hW => hK a w ⟨fun h => (by rw [hi] at h; cases h), hW⟩))
  · exact hs j hj
theorem wpAnyHE_ready {rs : List Nat} {fuel : Nat} {listed : Array Bool} {a : Act} {w : World} (hr : Region.ready md ops listed = rs) (hne : rs ≠ [])
    (h : AllReadyE P md ops Q S E fuel listed a w rs) : wpAnyHE P md ops Q S E (fuel + 1) listed a w := ⟨fun h0 => absurd (hr ▸ h0) hne, hr ▸ h⟩
theorem wp_region_heldE_drew {id : Nat} {a : Act} {w : World} (hm : P.follows .mixedOrders = true) (hS : S w.drew)
    (h : S w.drew → wpAnyHE P .any ops Q S E ops.size (Array.replicate ops.size false) a w.drew) : (Code.region id ops true).wp P Q a w :=
  wp_region_any hm (wpAny_of_HE _ _ _ _ (h hS))
end
end Go.Proofs.YtgeedjlbajmdkaaGreatDoor
