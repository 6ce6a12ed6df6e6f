/- folder: a run over pairs: its state; Out, Save. -/
import Derived.Test.YtjkggijkccbcpaaDoorMPairs
import Derived.Test.YtjkggijkccbcpaaDoorPairSum
import Derived.Test.YtjkggijkccbcpaaDoorMRun
import Derived.Test.YtjkggijkccbcpaaDoorExpr11
import Derived.Test.YtjkggijkccbcpaaDoorJobOpen
import Derived.Test.YtjkggijkccbcpaaDoorLightJob
import Derived.Test.YtjkggijkccbcpaaDoorMSlices
import Derived.Test.YtjkggijkccbcpaaDoorTexts
import Derived.Test.YtjkggijkccbcpaaDoorFold
import Derived.Test.YtjkggijkccbcpaaDoorPair4
import Derived.Test.YtjkggijkccbcpaaDoorCutLaw
import Derived.Test.YtjkggijkccbcpaaDoorExpr6
import Derived.Test.YtjkggijkccbcpaaDoorHeldE
import Derived.Test.YtjkggijkccbcpaaDoorOrder2
set_option linter.unusedSimpArgs false
set_option linter.unusedVariables false
/- The closed fact 'ready': a record as pairs. -/
namespace Go.Proofs.YtjkggijkccbcpaaDoor
open Go.RowKit

def exLeaf (k : Int) : ExR := ⟨k, 0, ⟨#[]⟩, none, 0, []⟩
def ruleLM : RuleR := ⟨false, 0, exLeaf 0, ⟨#[]⟩, exLeaf 2, exLeaf 9⟩
theorem ruleLM_at (w : World) : RuleAt w 1 ruleLM := ⟨ExAt_leaf w 0 0 ⟨#[]⟩ (by decide) (by decide) (by decide), ExAt_leaf w 2 0 ⟨#[]⟩ (by decide) (by decide) (by decide), ExAt_leaf w 9 0 ⟨#[]⟩ (by decide) (by decide) (by decide), by decide⟩
theorem ruleLM_ok : RuleOk ruleLM.v := RuleOk.of (by decide +kernel)
theorem ruleLM_made : pairsJ [ruleLM.v] 1 ⟨#[97, 32, 98]⟩ = [(⟨#[97, 32, 98]⟩, 2)] := by decide +kernel
end Go.Proofs.YtjkggijkccbcpaaDoor
/- What a mapper makes: short keys, small numbers (plain). -/
namespace Go.Proofs.YtjkggijkccbcpaaDoor
open Go.RowKit

theorem intE_bd {line it : ByteArray} {ws : List ByteArray} {each : Bool} (hl : line.size ≤ 1000) (hi : it.size ≤ 1000) (hw : ∀ x ∈ ws, x.size ≤ 1000) (hws : ws.length ≤ 1000) : ∀ e : ExprV, shE e false each = true → e.nodes ≤ 1000 → -9223372036854775808 ≤ intE e line it ws ∧ intE e line it ws ≤ 9223372036854775807
  | .mk k n s a, h, hn => by
    obtain ⟨p1, p2, p3, p4, p5, p6⟩ := shE_parts h
    rw [intE]
    unfold intK
    split
    · rename_i h7
      subst h7
      unfold nOk at p2
      rw [if_neg (by omega), if_neg (by omega), if_pos rfl] at p2
      simp only [Bool.and_eq_true, decide_eq_true_eq] at p2
      omega
    · split
      · rename_i h8
        subst h8
        match a, p5 with
        | [x], _ =>
          have hx : shE x true each = true := by
            simp only [kidsOf, show (8 : Int) ≠ 5 by decide, if_false, or_true, if_true, shL, Bool.and_eq_true] at p6
            exact p6.1
          have h1 := strE_le hl hi hw x hx
          have h2 : x.nodes ≤ 1000 := by
            simp only [ExprV.nodes, ExprV.nodesL] at hn
            omega
          have h3 := Nat.mul_le_mul_left 1000 h2
          simp only [strL, List.getD_cons_zero]
          omega
      · split
        · omega
        · split
          · rw [IntKind.wrap_i64]
            omega
          · omega
theorem pairsR_ok {r : RuleV} (hok : RuleOk r) (kind : Int) (line : ByteArray) (hl : line.size ≤ 500) : ∀ p ∈ pairsR r kind line, p.1.size ≤ 20 ∧ -9223372036854775808 ≤ p.2 ∧ p.2 ≤ 9223372036854775807 := by
  intro p hp
  unfold pairsR at hp
  obtain ⟨it, hit, hm⟩ := List.mem_filterMap.1 hp
  have hwl := words_line hl
  have his : it.size ≤ 1000 := by
    unfold itsR at hit
    split at hit
    · exact hwl.2 it hit
    · rw [List.mem_singleton.1 hit]; decide
  unfold madeR at hm
  split at hm
  · obtain rfl := Option.some.inj hm
    unfold pairR
    refine ⟨?_, ?_⟩
    · show (cut20 _).size ≤ 20
      unfold cut20
      rw [ByteArray.size_extract]
      omega
    · have hv := intE_bd (line := line) (it := it) (ws := wordsB line) (each := r.each) (by omega) his hwl.2 (by omega) r.val hok.val.2.2 (by have := hok.val.1; omega)
      show -9223372036854775808 ≤ first kind _ ∧ first kind _ ≤ 9223372036854775807
      unfold first
      split
      · omega
      · exact hv
  · cases hm
theorem pairsJ_ok {rs : List RuleV} (hok : ∀ r ∈ rs, RuleOk r) (kind : Int) (line : ByteArray) (hl : line.size ≤ 500) : ∀ p ∈ pairsJ rs kind line, p.1.size ≤ 20 ∧ -9223372036854775808 ≤ p.2 ∧ p.2 ≤ 9223372036854775807 := by
  intro p hp
  unfold pairsJ at hp
  obtain ⟨r, hr, hp⟩ := List.mem_flatMap.1 hp
  exact pairsR_ok (hok r hr) kind line hl p hp
theorem madeL_ok {rs : List RuleV} (hok : ∀ r ∈ rs, RuleOk r) (kind : Int) {lines : List ByteArray} (hl : ∀ l ∈ lines, l.size ≤ 500) : ∀ p ∈ madeL rs kind lines, p.1.size ≤ 20 ∧ -9223372036854775808 ≤ p.2 ∧ p.2 ≤ 9223372036854775807 := by
  intro p hp
  unfold madeL at hp
  obtain ⟨x, hx, hp⟩ := List.mem_flatMap.1 hp
  exact pairsJ_ok hok kind x (hl x hx) p hp
end Go.Proofs.YtjkggijkccbcpaaDoor
/- TopSlices: the law's walk. -/
namespace Go.Proofs.YtjkggijkccbcpaaDoor
open Go.RowKit

def cntL (ss : List (List Pr)) (k : Nat) : Nat := ((ss.take k).map List.length).sum
theorem cntL_succ {ss : List (List Pr)} {k : Nat} {s : List Pr} (h : ss[k]? = some s) : cntL ss (k + 1) = cntL ss k + s.length := by
  obtain ⟨hlt, hx⟩ := List.getElem?_eq_some_iff.1 h
  unfold cntL
  rw [List.take_succ_eq_append_getElem hlt, hx, List.map_append, List.sum_append]
  simp
theorem cntL_mono (ss : List (List Pr)) (k : Nat) : cntL ss k ≤ cntL ss ss.length := by
  unfold cntL
  rw [List.take_length]
  conv => rhs; rw [← List.take_append_drop k ss]
  rw [List.map_append, List.sum_append]
  omega
theorem cut_count {fold : Int} {early : Bool} {many : Nat} (hm : 1 ≤ many) (L : List Pr) : cntL (cutP fold early many L) many ≤ L.length ∧ (early = false → cntL (cutP fold early many L) many = L.length) := by
  have h1 : cntL (cutP fold early many L) many = ((List.range many).map fun n => (if early = true then groups fold ((srt L).filter (inSlice many n)) else (srt L).filter (inSlice many n)).length).sum := by
    unfold cntL
    rw [List.take_of_length_le (by rw [cutP_len]; exact Nat.le_refl _)]
    unfold cutP
    rw [List.map_map]
    rfl
  have h2 := slices_count hm (srt L)
  rw [srt_len] at h2
  rw [h1]
  cases early with
  | false => exact ⟨by simpa using Nat.le_of_eq h2, fun _ => by simpa using h2⟩
  | true =>
    refine ⟨?_, fun h => by cases h⟩
    rw [← h2]
    refine sum_le (fun i => ?_) many
    simp only [if_true]
    exact groups_length _ _
theorem grp_keys {fold : Int} {l : List Pr} {i : Nat} {a b : Pr} (h : (grp fold l)[i]? = some a) (h2 : (grp fold l)[i + 1]? = some b) : ¬ b.1 = a.1 := by
  have hi := grp_incr fold l
  obtain ⟨hl1, hx1⟩ := List.getElem?_eq_some_iff.1 h
  obtain ⟨hl2, hx2⟩ := List.getElem?_eq_some_iff.1 h2
  have := List.pairwise_iff_getElem.1 hi i (i + 1) hl1 hl2 (by omega)
  rw [hx1, hx2] at this
  intro e
  exact klt_ne this (by rw [e])
end Go.Proofs.YtjkggijkccbcpaaDoor
/- The mapper: a run as a value that lies in blocks of S: New, Step, Slices. -/
namespace Go.Proofs.YtjkggijkccbcpaaDoor
open Go.RowKit

def MRunV (w : World) (B : Nat) (ro : Option Addr) (rc : Nat) (rs : List RuleR) (fold slices : Int) (early : Bool) (lines : List ByteArray) (n : Nat) (S : Nat → Prop) (v : Value) : Prop :=
  ∃ g la lc va, v = .pointer (some ⟨g, 0, none⟩) ∧ MRunAt w B g ro rc rs fold slices early lines n la lc va ∧ S g ∧ (∀ q, va.ownBlock = some q → S q) ∧ ∀ b o, la = some ⟨b, o, none⟩ → S b
section
variable {w w' : World} {B : Nat} {ro : Option Addr} {rc : Nat} {rs : List RuleR} {fold slices : Int} {early : Bool} {lines : List ByteArray} {n : Nat} {S T : Nat → Prop} {v : Value}
theorem MRunV.ptr (h : MRunV w B ro rc rs fold slices early lines n S v) : ∃ g, v = .pointer (some ⟨g, 0, none⟩) := by
  obtain ⟨g, _, _, _, e, _⟩ := h
  exact ⟨g, e⟩
theorem MRunV.le (h : MRunV w B ro rc rs fold slices early lines n S v) : n ≤ lines.length := by
  obtain ⟨_, _, _, _, _, h1, _⟩ := h
  exact h1.at_le
theorem MRunV.more (h : MRunV w B ro rc rs fold slices early lines n S v) (hs : ∀ q, S q → T q) : MRunV w B ro rc rs fold slices early lines n T v := by
  obtain ⟨g, la, lc, va, e, h1, h2, h3, h4⟩ := h
  exact ⟨g, la, lc, va, e, h1, hs g h2, fun q e => hs q (h3 q e), fun b o e => hs b (h4 b o e)⟩
theorem MRunAt.kept {g : Nat} {la : Option Addr} {lc : Nat} {va : Value} (h : MRunAt w B g ro rc rs fold slices early lines n la lc va) (k : KeptBut T w w') (hg : ¬ T g) (hv : ∀ q, va.ownBlock = some q → ¬ T q) (hl : ∀ b o, la = some ⟨b, o, none⟩ → ¬ T b) : MRunAt w' B g ro rc rs fold slices early lines n la lc va :=
  ⟨h.bk.kept k hg, h.lo, h.sl.kept k hl, k.own h.own hv, ⟨h.apart.1, fun b o e => ⟨⟨(h.apart.2 b o e).1.1, Nat.lt_of_lt_of_le (h.apart.2 b o e).1.2 k.size⟩, (h.apart.2 b o e).2⟩⟩, h.at_le⟩
theorem MRunV.kept (h : MRunV w B ro rc rs fold slices early lines n S v) (k : KeptBut T w w') (hs : ∀ q, S q → ¬ T q) : MRunV w' B ro rc rs fold slices early lines n S v := by
  obtain ⟨g, la, lc, va, e, h1, h2, h3, h4⟩ := h
  exact ⟨g, la, lc, va, e, h1.kept k (hs g h2) (fun q e => hs q (h3 q e)) (fun b o e => hs b (h4 b o e)), h2, h3, h4⟩
theorem MRunV.later (h : MRunV w B ro rc rs fold slices early lines n S v) (hb : Below w.heap.size w w') : MRunV w' B ro rc rs fold slices early lines n S v := by
  obtain ⟨g, la, lc, va, e, h1, h2, h3, h4⟩ := h
  exact ⟨g, la, lc, va, e, h1.later hb, h2, h3, h4⟩
end
theorem MNew_run (ro : Option Addr) (rc : Nat) (rs : List RuleR) (fold slices : Int) (early : Bool) (d : Nat) (lo : Option Addr) (lc : Nat) (lines : List ByteArray) (w : World) (hj : JobAt w ro rs d) (hl : rs.length ≤ maxLen) (hs : Sl 1 encS w lo lines) (hn : lo = none → lc = 0) (hok : jobF (rs.map RuleR.v) fold slices = 0) (h60 : lines.length ≤ 60) :
    Calls Tryd.prog 10 #[.agg #[.slice ro rs.length rc, .int .i64 fold, .bool early, .int .i64 slices], .slice lo lines.length lc] w fun e w' => (∃ v, e = .returned (.tuple #[v, .nilIface]) ∧ MRunV w' w.heap.size ro rc rs fold slices early lines 0 (fun q => w.heap.size ≤ q ∧ q < w'.heap.size) v) ∧ Below w.heap.size w w' := by
  refine (MNew_lo ro rc rs fold slices early d lo lc lines w hj hl (by omega) hs hn hok h60).mono ?_
  rintro e w' ⟨⟨g, la, lc', rfl, h, hlo⟩, hb⟩
  exact ⟨⟨_, rfl, g, la, lc', _, rfl, h, ⟨h.lo, h.bk.lt⟩, fun q e => by simp [Value.ownBlock] at e, fun b o e => ⟨hlo b o e, (h.apart.2 b o e).1.2⟩⟩, hb⟩
theorem MStep_run {B : Nat} {ro : Option Addr} {rc : Nat} {rs : List RuleR} {fold slices : Int} {early : Bool} {lines : List ByteArray} {n : Nat} {S : Nat → Prop} {v : Value} (d : Nat) (many : Int) (w : World) (hB : B ≤ w.heap.size) (hg : ∀ w', Below B w w' → GM w') (hj : ∀ w', Below B w w' → JobAt w' ro rs d) (hok : JobOk rs fold slices) (h : MRunV w B ro rc rs fold slices early lines n S v) (hli : ∀ l ∈ lines, l.size ≤ 500) (hll : lines.length ≤ 1000) (hmany : many ≤ 9223372036854775807) :
    Calls Tryd.prog 11 #[v, .int .i64 many] w fun e w' => (e = .returned (.bool (decide (min (n + many.toNat) lines.length = lines.length))) ∧ MRunV w' B ro rc rs fold slices early lines (min (n + many.toNat) lines.length) (fun q => S q ∨ w.heap.size ≤ q) v) ∧ KeptBut S w w' := by
  obtain ⟨g, la, lc, va, rfl, h1, h2, h3, h4⟩ := h
  refine (MStep_any d many w hB hg hj hok h1 hli hll hmany).mono ?_
  rintro e w' ⟨va', ⟨rfl, k1, k2⟩, k3⟩
  exact ⟨⟨rfl, g, la, lc, va', rfl, k1, .inl h2, fun q e => (k2 q e).imp (h3 q) id, fun b o e => .inl (h4 b o e)⟩, k3.mono fun q hq => hq.elim (fun e => e ▸ h2) (h3 q)⟩
theorem MSlices_run {B : Nat} {ro : Option Addr} {rc : Nat} {rs : List RuleR} {fold : Int} {many : Nat} {early : Bool} {lines : List ByteArray} {n : Nat} {S : Nat → Prop} {v : Value} (w : World) (h : MRunV w B ro rc rs fold many early lines n S v) (hok : JobOk rs fold many) (hli : ∀ l ∈ lines, l.size ≤ 500) (hll : lines.length ≤ 1000) :
    Calls Tryd.prog 12 #[v] w fun e w' => ∃ ob vs, e = .returned (.slice (some ⟨ob, 0, none⟩) many many) ∧ Rws w' w.heap.size ob vs (cutP fold early many (madeL (rs.map RuleR.v) fold (lines.take n))) ∧ Below w.heap.size w w' := by
  obtain ⟨g, la, lc, va, rfl, h1, h2, h3, h4⟩ := h
  have hm := hok.slices
  have h5 := madeL_len (rs.map RuleR.v) fold (by rw [List.length_map]; exact hok.many.2) (lines.take n) (fun l hl => hli l (List.mem_of_mem_take hl))
  rw [List.length_take] at h5
  refine MSlices_any w h1 (by omega) (by omega) fun p hp => ?_
  have := (madeL_ok (rs := rs.map RuleR.v) (by intro r hr; obtain ⟨x, hx, rfl⟩ := List.mem_map.1 hr; exact hok.ok x hx) fold (lines := lines.take n) (fun l hl => hli l (List.mem_of_mem_take hl)) p hp).1
  unfold maxLen
  omega
end Go.Proofs.YtjkggijkccbcpaaDoor
/- The references Two and Grouped: what each returns. -/
namespace Go.Proofs.YtjkggijkccbcpaaDoor
open Go.RowKit

/-- no group goes on at n -/
def brk (k : Int) (l : List Pr) (n : Nat) : Prop := ∀ q p, (groups k (l.take n)).getLast? = some q → l[n]? = some p → ¬ q.1 = p.1
theorem gstep_new {k : Int} {out : List Pr} {p : Pr} (h : ∀ q, out.getLast? = some q → ¬ q.1 = p.1) : gstep k out p = out ++ [p] := by
  unfold gstep
  split
  · rename_i q hq; rw [if_neg (h q hq)]
  · rename_i hq
    rw [List.getLast?_eq_none_iff.1 hq]; rfl
theorem gstep_add {k : Int} {out : List Pr} {x : ByteArray} {v y : Int} : gstep k (out ++ [(x, v)]) (x, y) = out ++ [(x, two k v y)] := by
  unfold gstep; simp

end Go.Proofs.YtjkggijkccbcpaaDoor
namespace Go.Proofs.YtjkggijkccbcpaaDoor
open Go.RowKit

theorem two_bd (k a b : Int) (ha : -9223372036854775808 ≤ a ∧ a ≤ 9223372036854775807) (hb : -9223372036854775808 ≤ b ∧ b ≤ 9223372036854775807) : -9223372036854775808 ≤ two k a b ∧ two k a b ≤ 9223372036854775807 := by
  unfold two
  split
  · omega
  · split
    · omega
    · unfold wrap64; omega
theorem gstep_ok (k : Int) (out : List Pr) (p : Pr) (P : Pr → Prop) (h : ∀ x ∈ out, P x) (hp : P p) (h2 : ∀ q, P q → q.1 = p.1 → P (q.1, two k q.2 p.2)) : ∀ x ∈ gstep k out p, P x := by
  rcases list_end out with rfl | ⟨S, q, rfl⟩
  · rw [gstep_nil]
    intro x hx
    obtain rfl := List.mem_singleton.1 hx
    exact hp
  · by_cases he : q.1 = p.1
    · rw [gstep_same he]
      intro x hx
      rcases List.mem_append.1 hx with hx | hx
      · exact h x (List.mem_append_left _ hx)
      · obtain rfl := List.mem_singleton.1 hx
        exact h2 q (h q (by simp)) he
    · rw [gstep_other he]
      intro x hx
      rcases List.mem_append.1 hx with hx | hx
      · exact h x hx
      · obtain rfl := List.mem_singleton.1 hx
        exact hp
theorem groups_all (k : Int) (P : Pr → Prop) (h2 : ∀ q p, P q → P p → q.1 = p.1 → P (q.1, two k q.2 p.2)) : ∀ (l : List Pr), (∀ x ∈ l, P x) → ∀ x ∈ groups k l, P x := by
  intro l
  induction l using rev_ind2 with
  | h0 => intro _ x hx; simp [groups] at hx
  | hs l p ih =>
    intro h
    rw [groups_snoc]
    exact gstep_ok k _ p P (ih fun x hx => h x (List.mem_append_left _ hx)) (h p (by simp)) fun q hq he => h2 q p hq (h p (by simp)) he
theorem okP.groups {l : List Pr} (h : okP l) (k : Int) : okP (groups k l) :=
  ⟨Nat.le_trans (groups_length k l) h.1, groups_all k (fun p => p.1.size ≤ 100000 ∧ -9223372036854775808 ≤ p.2 ∧ p.2 ≤ 9223372036854775807) (fun q p hq hp _ => ⟨hq.1, two_bd k q.2 p.2 hq.2 hp.2⟩) l h.2⟩
theorem okP.sub {l m : List Pr} (h : okP l) (hs : m.Sublist l) : okP m := ⟨Nat.le_trans hs.length_le h.1, fun p hp => h.2 p (hs.subset hp)⟩
/-- the run in block g: its kind, the pairs, how far it is, what is out -/
structure RunAt (w : World) (base g : Nat) (kind : Int) (L : List Pr) (n : Nat) (out : List Pr) (la : Option Addr) (lc : Nat) (va : Value) : Prop where
  bk : Bk w g [.int .i64 kind, .slice la L.length lc, .int .i64 n, va]
  lo : base ≤ g
  sl : Sl 2 encP w la L
  own : Own 2 encP 70 w base va out
  apart : va.ownBlock ≠ some g ∧ ∀ b off, la = some ⟨b, off, none⟩ → b ≠ g ∧ va.ownBlock ≠ some b
  at_le : n ≤ L.length
theorem RunAt.later {w w' : World} {base g : Nat} {kind : Int} {L : List Pr} {n : Nat} {out : List Pr} {la : Option Addr} {lc : Nat} {va : Value} (h : RunAt w base g kind L n out la lc va) (hb : Below w.heap.size w w') : RunAt w' base g kind L n out la lc va :=
  ⟨h.bk.later hb, h.lo, h.sl.later hb (Nat.le_refl _), h.own.later hb, h.apart, h.at_le⟩
theorem Out_any {base g : Nat} {kind : Int} {L : List Pr} {n : Nat} {out : List Pr} {la : Option Addr} {lc : Nat} {va : Value} (w : World) (hg : GT w) (h : RunAt w base g kind L n out la lc va) (hok : okP out) :
    Calls Tryd.prog 6 #[.pointer (some ⟨g, 0, none⟩)] w fun e w' => e = .returned (.string (tx (textP out))) ∧ Below w.heap.size w w' := by
  obtain ⟨oa, oc, rfl⟩ := id h.own.1
  have c3 := h.bk.get (j := 3) rfl
  have HT := hide (Text_any oa oc out w hg hok (h.own.sl encP_len))
  clear h hok hg
  go_enter Tryd.func6, Tryd.ntmps6
  go_wp2_with fail
  refine HT.out.mono ?_
  rintro e w1 ⟨rfl, b1⟩
  have HB := hide b1
  clear b1 HT
  go_wp2
  go_ret
  exact ⟨rfl, HB.out⟩
def saveP (n : Nat) (out : List Pr) : List UInt8 := Lib.itoa (n : Int) ++ 10 :: textP out
end Go.Proofs.YtjkggijkccbcpaaDoor
/- The reference: what a job makes of a record. -/
namespace Go.Proofs.YtjkggijkccbcpaaDoor
open Go.RowKit

/-- the inner loop, at one rule -/
structure RIn (w1 wr : World) (B rb : Nat) (r : RuleR) (so : Option Addr) (its : List ByteArray) (v : Value) (l : List Pr) : Prop where
  own : Own 2 encP 70 wr B v l
  rule : Bk wr rb (encRule r)
  sl : Sl 1 encS wr so its
  bel : Below B w1 wr
  apart : ∀ q, v.ownBlock = some q → q ≠ rb ∧ ∀ b o, so = some ⟨b, o, none⟩ → q ≠ b
  so_ : ∀ b o, so = some ⟨b, o, none⟩ → b < wr.heap.size
  size : B ≤ wr.heap.size
theorem RIn.later {w1 w w' : World} {B rb : Nat} {r : RuleR} {so : Option Addr} {its : List ByteArray} {v : Value} {l : List Pr} (h : RIn w1 w B rb r so its v l) (hb : Below w.heap.size w w') : RIn w1 w' B rb r so its v l :=
  ⟨h.own.later hb, h.rule.later hb, h.sl.later hb (Nat.le_refl _), h.bel.trans (hb.mono h.size), h.apart, fun b o e => Nat.lt_of_lt_of_le (h.so_ b o e) hb.size, Nat.le_trans h.size hb.size⟩
theorem RIn.put {w1 W A wn : World} {B rb : Nat} {r : RuleR} {so : Option Addr} {its : List ByteArray} {v v' : Value} {l l' : List Pr} (h : RIn w1 W B rb r so its v l) (hA : Below W.heap.size W A) (ho : Own 2 encP 70 wn B v' l') (hb : Below B A wn) (hg : A.grownBy wn v.ownBlock) (hat : v'.ownBlock = v.ownBlock ∨ v'.ownBlock = some A.heap.size) : RIn w1 wn B rb r so its v' l' := by
  have hk : KeptBut (fun q => v.ownBlock = some q) A wn := KeptBut.of_grown hg fun k e => e
  have hA2 := h.later hA
  have hsz := hk.size
  have hrl := hA2.rule.lt
  refine ⟨ho, hA2.rule.kept hk fun e => (h.apart _ e).1 rfl, hA2.sl.kept hk fun b o e e2 => (h.apart _ e2).2 b o e rfl, hA2.bel.trans hb, fun q e => ?_, fun b o e => Nat.lt_of_lt_of_le (hA2.so_ b o e) hsz, Nat.le_trans hA2.size hsz⟩
  rcases hat with e2 | e2
  · exact h.apart q (e2 ▸ e)
  · rw [e2] at e
    obtain rfl := Option.some.inj e
    exact ⟨by omega, fun b o e3 => by have := hA2.so_ b o e3; omega⟩
theorem cut20_long {s : ByteArray} (h : 20 < s.size) : s.extract 0 20 = cut20 s := by unfold cut20; rw [Nat.min_eq_right (by omega)]
theorem cut20_short {s : ByteArray} (h : ¬ 20 < s.size) : s = cut20 s := by unfold cut20; rw [Nat.min_eq_left (by omega)]; simp
end Go.Proofs.YtjkggijkccbcpaaDoor
/- The reference: what a job is over records: each slice's text. -/
namespace Go.Proofs.YtjkggijkccbcpaaDoor
open Go.RowKit

theorem pairsJ_len (rs : List RuleV) (kind : Int) (line : ByteArray) (h : line.size ≤ 150) : (pairsJ rs kind line).length ≤ rs.length * 152 := by
  unfold pairsJ
  have h3 : (wordsB line).length ≤ 151 := by
    rw [wordsB_eq, List.length_map]
    have h4 := tl_len line
    have := words_len line.data.toList
    omega
  induction rs with
  | nil => simp
  | cons r rs ih =>
    rw [List.flatMap_cons, List.length_append, List.length_cons, Nat.succ_mul]
    have h1 := pairsR_len r kind line
    omega
theorem madeL_len2 (rs : List RuleV) (kind : Int) (hr : rs.length ≤ 4) : ∀ (lines : List ByteArray), (∀ l ∈ lines, l.size ≤ 150) → (madeL rs kind lines).length ≤ lines.length * 608
  | [], _ => by simp [madeL]
  | a :: l, h => by
    have h1 := madeL_len2 rs kind hr l fun x hx => h x (List.mem_cons_of_mem _ hx)
    have h2 := pairsJ_len rs kind a (h a List.mem_cons_self)
    have h3 := Nat.mul_le_mul_right 152 hr
    unfold madeL at h1 ⊢
    rw [List.flatMap_cons, List.length_append, List.length_cons, Nat.succ_mul]
    omega
/-- the pairs of slice k -/
def outL (rs : List RuleV) (fold : Int) (many : Nat) (lines : List ByteArray) (k : Nat) : List Pr := (grp fold (madeL rs fold lines)).filter (inSlice many k)
/-- the texts of a job's slices -/
def plainT (rs : List RuleV) (fold : Int) (many : Nat) (lines : List ByteArray) : List ByteArray := (List.range many).map fun k => tx (textP (outL rs fold many lines k))
theorem plainT_len (rs : List RuleV) (fold : Int) (many : Nat) (lines : List ByteArray) : (plainT rs fold many lines).length = many := by unfold plainT; rw [List.length_map, List.length_range]
theorem range_map_succ {α : Type} (f : Nat → α) (k : Nat) : (List.range (k + 1)).map f = (List.range k).map f ++ [f k] := by rw [List.range_succ, List.map_append]; rfl
theorem okP_made {rs : List RuleV} {fold : Int} {lines : List ByteArray} (hr : rs.length ≤ 4) (hok : ∀ r ∈ rs, RuleOk r) (hl : lines.length ≤ 100) (hs : ∀ l ∈ lines, l.size ≤ 150) : okP (madeL rs fold lines) := by
  refine ⟨by have := madeL_len2 rs fold hr lines hs; omega, fun p hp => ?_⟩
  have := madeL_ok hok fold (fun l h => by have := hs l h; omega) p hp
  omega
theorem okP_srt {l : List Pr} (h : okP l) : okP (srt l) := ⟨by rw [srt_len]; exact h.1, fun p hp => h.2 p ((srt_perm l).subset hp)⟩
theorem two_bd2 (k a b : Int) (ha : -9223372036854775808 ≤ a ∧ a ≤ 9223372036854775807) (hb : -9223372036854775808 ≤ b ∧ b ≤ 9223372036854775807) : -9223372036854775808 ≤ two k a b ∧ two k a b ≤ 9223372036854775807 := by
  unfold two
  split
  · omega
  · split
    · omega
    · unfold wrap64; omega
theorem grp_val {k : Int} : ∀ (l o : List Pr), (∀ x ∈ o, x.1.size ≤ 100000 ∧ -9223372036854775808 ≤ x.2 ∧ x.2 ≤ 9223372036854775807) → (∀ x ∈ l, x.1.size ≤ 100000 ∧ -9223372036854775808 ≤ x.2 ∧ x.2 ≤ 9223372036854775807) → ∀ x ∈ l.foldl (gstep k) o, x.1.size ≤ 100000 ∧ -9223372036854775808 ≤ x.2 ∧ x.2 ≤ 9223372036854775807
  | [], o, ho, _ => ho
  | a :: l, o, ho, hl => by
    refine grp_val l _ (fun x hx => ?_) fun x hx => hl x (List.mem_cons_of_mem _ hx)
    have ha := hl a List.mem_cons_self
    rcases list_end o with rfl | ⟨S, q, rfl⟩
    · rw [gstep_nil] at hx
      rw [List.mem_singleton.1 hx]; exact ha
    · by_cases he : q.1 = a.1
      · rw [gstep_same he] at hx
        rcases List.mem_append.1 hx with hx | hx
        · exact ho x (List.mem_append_left _ hx)
        · rw [List.mem_singleton.1 hx]
          have hq := ho q (by simp)
          exact ⟨hq.1, two_bd2 k _ _ hq.2 ha.2⟩
      · rw [gstep_other he] at hx
        rcases List.mem_append.1 hx with hx | hx
        · exact ho x hx
        · rw [List.mem_singleton.1 hx]; exact ha
theorem okP_grp {l : List Pr} (h : okP l) (k : Int) : okP (grp k l) := by
  refine ⟨Nat.le_trans (groups_length k _) (by rw [srt_len]; exact h.1), ?_⟩
  exact grp_val (srt l) [] (fun x hx => by cases hx) (okP_srt h).2
theorem okP_sub {l m : List Pr} (h : okP l) (hs : m.Sublist l) : okP m := ⟨Nat.le_trans hs.length_le h.1, fun p hp => h.2 p (hs.subset hp)⟩
end Go.Proofs.YtjkggijkccbcpaaDoor
/- An input's parts, each cut in slices; slice by slice folded: folded early or not, the same comes out. -/
namespace Go.Proofs.YtjkggijkccbcpaaDoor
open Go.RowKit

def cutSl (fold : Int) (early : Bool) (many : Nat) (L : List Pr) (n : Nat) : List Pr := if early = true then grp fold (L.filter (inSlice many n)) else srt (L.filter (inSlice many n))
theorem cutSl_get {fold : Int} {early : Bool} {many n : Nat} {L l : List Pr} (h : n < many) (hl : (cutP fold early many L)[n]? = some l) : l = cutSl fold early many L n := by
  rw [cutP_get h] at hl
  exact (Option.some.inj hl).symm
theorem cutSl_rise (fold : Int) (early : Bool) (many : Nat) (L : List Pr) (n : Nat) : Rise (cutSl fold early many L n) := by
  unfold cutSl
  split
  · exact (grp_incr _ _).imp fun h => klt_asymm h
  · exact srt_rise _
theorem cutSl_ok {fold : Int} {early : Bool} {many n : Nat} {L : List Pr} (h : okP L) : okP (cutSl fold early many L n) := by
  unfold cutSl
  split
  · exact okP_grp (okP_sub h List.filter_sublist) fold
  · exact okP_srt (okP_sub h List.filter_sublist)
theorem cutSl_len (fold : Int) (early : Bool) (many : Nat) (L : List Pr) (n : Nat) : (cutSl fold early many L n).length ≤ L.length := by
  unfold cutSl
  split
  · unfold grp
    refine Nat.le_trans (groups_length _ _) ?_
    rw [srt_len]
    exact List.length_filter_le _ _
  · rw [srt_len]
    exact List.length_filter_le _ _
theorem madeL_flatten (rs : List RuleV) (fold : Int) : ∀ (CS : List (List ByteArray)), madeL rs fold CS.flatten = (CS.map (madeL rs fold)).flatten
  | [] => rfl
  | c :: CS => by rw [List.flatten_cons, madeL_append, madeL_flatten rs fold CS]; rfl
/-- what the parts give to slice n -/
def given (rs : List RuleV) (fold : Int) (early : Bool) (many : Nat) (CS : List (List ByteArray)) (n : Nat) : List (List Pr) := CS.map fun c => cutSl fold early many (madeL rs fold c) n
theorem given_snoc (rs : List RuleV) (fold : Int) (early : Bool) (many : Nat) (CS : List (List ByteArray)) (c : List ByteArray) (n : Nat) : given rs fold early many (CS ++ [c]) n = given rs fold early many CS n ++ [cutSl fold early many (madeL rs fold c) n] := by unfold given; rw [List.map_append]; rfl
theorem given_rise {rs : List RuleV} {fold : Int} {early : Bool} {many : Nat} {CS : List (List ByteArray)} {n : Nat} : ∀ l ∈ given rs fold early many CS n, Rise l := fun l hl => by
  obtain ⟨c, _, rfl⟩ := List.mem_map.1 hl
  exact cutSl_rise _ _ _ _ _
theorem flatten_len_le {α β : Type} {f g : α → List β} (h : ∀ c, (f c).length ≤ (g c).length) : ∀ (CS : List α), (CS.map f).flatten.length ≤ (CS.map g).flatten.length
  | [] => Nat.le_refl _
  | c :: CS => by
    have h1 := flatten_len_le h CS
    have h2 := h c
    simp only [List.map_cons, List.flatten_cons, List.length_append]
    omega
theorem given_ok {rs : List RuleV} {fold : Int} {early : Bool} {many : Nat} {CS : List (List ByteArray)} {n : Nat} (h : okP (madeL rs fold CS.flatten)) : okP (given rs fold early many CS n).flatten := by
  rw [madeL_flatten] at h
  refine ⟨Nat.le_trans (flatten_len_le (fun c => cutSl_len fold early many (madeL rs fold c) n) CS) h.1, fun p hp => ?_⟩
  obtain ⟨l, hl, hp⟩ := List.mem_flatten.1 hp
  obtain ⟨c, hc, rfl⟩ := List.mem_map.1 hl
  exact (cutSl_ok (okP_sub h (List.sublist_flatten_of_mem (List.mem_map.2 ⟨c, hc, rfl⟩)))).2 p hp
theorem given_out {rs : List RuleV} {fold : Int} {early : Bool} {many : Nat} {CS : List (List ByteArray)} {n : Nat} (hn : n < many) : groups fold (srt (given rs fold early many CS n).flatten) = outL rs fold many CS.flatten n := by
  have h1 := parts_grp (fold := fold) (early := early) hn (CS.map (madeL rs fold)) (given rs fold early many CS n) (by unfold given; rw [List.length_map, List.length_map]) (by
    intro i l s hl hs
    unfold given at hs
    rw [List.getElem?_map] at hl hs
    cases hc : CS[i]? with
    | none => rw [hc] at hl; cases hl
    | some c =>
      rw [hc] at hl hs
      obtain rfl := Option.some.inj hl
      obtain rfl := Option.some.inj hs
      rw [cutP_get hn]
      rfl)
  unfold outL
  rw [grp_filter (inSlice_key many n) fold, madeL_flatten, ← h1]
  rfl
end Go.Proofs.YtjkggijkccbcpaaDoor
