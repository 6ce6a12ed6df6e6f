/- The mapper: a run as a value that lies in blocks of S: New, Step, Slices. -/
import Derived.Test.YtafogaopccajaaaDoorMRun
import Derived.Test.YtafogaopccajaaaDoorExpr11
import Derived.Test.YtafogaopccajaaaDoorFolder2
import Derived.Test.YtafogaopccajaaaDoorMSlices
set_option linter.unusedSimpArgs false
set_option linter.unusedVariables false
/- What a mapper makes: short keys, small numbers (plain). -/
namespace Go.Proofs.YtafogaopccajaaaDoor
open Go.RowKit

theorem intE_bd {line it : ByteArray} {ws : List ByteArray} {each : Bool} (hl : line.size ≤ 1000) (hi : it.size ≤ 1000) (hw : ∀ x ∈ ws, x.size ≤ 1000) (hws : ws.length ≤ 1000) : ∀ e : ExprV, shE e false each = true → e.nodes ≤ 1000 → -9223372036854775808 ≤ intE e line it ws ∧ intE e line it ws ≤ 9223372036854775807
  | .mk k n s a, h, hn => by
    obtain ⟨p1, p2, p3, p4, p5, p6⟩ := shE_parts h
    rw [intE]
    unfold intK
    split
    · rename_i h7
      subst h7
      unfold nOk at p2
      rw [if_neg (by omega), if_neg (by omega), if_pos rfl] at p2
      simp only [Bool.and_eq_true, decide_eq_true_eq] at p2
      omega
    · split
      · rename_i h8
        subst h8
        match a, p5 with
        | [x], _ =>
          have hx : shE x true each = true := by
            simp only [kidsOf, show (8 : Int) ≠ 5 by decide, if_false, or_true, if_true, shL, Bool.and_eq_true] at p6
            exact p6.1
          have h1 := strE_le hl hi hw x hx
          have h2 : x.nodes ≤ 1000 := by
            simp only [ExprV.nodes, ExprV.nodesL] at hn
            omega
          have h3 := Nat.mul_le_mul_left 1000 h2
          simp only [strL, List.getD_cons_zero]
          omega
      · split
        · omega
        · split
          · rw [IntKind.wrap_i64]
            omega
          · omega
theorem pairsR_ok {r : RuleV} (hok : RuleOk r) (kind : Int) (line : ByteArray) (hl : line.size ≤ 500) : ∀ p ∈ pairsR r kind line, p.1.size ≤ 20 ∧ -9223372036854775808 ≤ p.2 ∧ p.2 ≤ 9223372036854775807 := by
  intro p hp
  unfold pairsR at hp
  obtain ⟨it, hit, hm⟩ := List.mem_filterMap.1 hp
  have hwl := words_line hl
  have his : it.size ≤ 1000 := by
    unfold itsR at hit
    split at hit
    · exact hwl.2 it hit
    · rw [List.mem_singleton.1 hit]; decide
  unfold madeR at hm
  split at hm
  · obtain rfl := Option.some.inj hm
    unfold pairR
    refine ⟨?_, ?_⟩
    · show (cut20 _).size ≤ 20
      unfold cut20
      rw [ByteArray.size_extract]
      omega
    · have hv := intE_bd (line := line) (it := it) (ws := wordsB line) (each := r.each) (by omega) his hwl.2 (by omega) r.val hok.val.2.2 (by have := hok.val.1; omega)
      show -9223372036854775808 ≤ first kind _ ∧ first kind _ ≤ 9223372036854775807
      unfold first
      split
      · omega
      · exact hv
  · cases hm
theorem pairsJ_ok {rs : List RuleV} (hok : ∀ r ∈ rs, RuleOk r) (kind : Int) (line : ByteArray) (hl : line.size ≤ 500) : ∀ p ∈ pairsJ rs kind line, p.1.size ≤ 20 ∧ -9223372036854775808 ≤ p.2 ∧ p.2 ≤ 9223372036854775807 := by
  intro p hp
  unfold pairsJ at hp
  obtain ⟨r, hr, hp⟩ := List.mem_flatMap.1 hp
  exact pairsR_ok (hok r hr) kind line hl p hp
theorem madeL_ok {rs : List RuleV} (hok : ∀ r ∈ rs, RuleOk r) (kind : Int) {lines : List ByteArray} (hl : ∀ l ∈ lines, l.size ≤ 500) : ∀ p ∈ madeL rs kind lines, p.1.size ≤ 20 ∧ -9223372036854775808 ≤ p.2 ∧ p.2 ≤ 9223372036854775807 := by
  intro p hp
  unfold madeL at hp
  obtain ⟨x, hx, hp⟩ := List.mem_flatMap.1 hp
  exact pairsJ_ok hok kind x (hl x hx) p hp
end Go.Proofs.YtafogaopccajaaaDoor
namespace Go.Proofs.YtafogaopccajaaaDoor
open Go.RowKit

def MRunV (w : World) (B : Nat) (ro : Option Addr) (rc : Nat) (rs : List RuleR) (fold slices : Int) (early : Bool) (lines : List ByteArray) (n : Nat) (S : Nat → Prop) (v : Value) : Prop :=
  ∃ g la lc va, v = .pointer (some ⟨g, 0, none⟩) ∧ MRunAt w B g ro rc rs fold slices early lines n la lc va ∧ S g ∧ (∀ q, va.ownBlock = some q → S q) ∧ ∀ b o, la = some ⟨b, o, none⟩ → S b
section
variable {w w' : World} {B : Nat} {ro : Option Addr} {rc : Nat} {rs : List RuleR} {fold slices : Int} {early : Bool} {lines : List ByteArray} {n : Nat} {S T : Nat → Prop} {v : Value}
theorem MRunV.ptr (h : MRunV w B ro rc rs fold slices early lines n S v) : ∃ g, v = .pointer (some ⟨g, 0, none⟩) := by
  obtain ⟨g, _, _, _, e, _⟩ := h
  exact ⟨g, e⟩
theorem MRunV.le (h : MRunV w B ro rc rs fold slices early lines n S v) : n ≤ lines.length := by
  obtain ⟨_, _, _, _, _, h1, _⟩ := h
  exact h1.at_le
theorem MRunV.more (h : MRunV w B ro rc rs fold slices early lines n S v) (hs : ∀ q, S q → T q) : MRunV w B ro rc rs fold slices early lines n T v := by
  obtain ⟨g, la, lc, va, e, h1, h2, h3, h4⟩ := h
  exact ⟨g, la, lc, va, e, h1, hs g h2, fun q e => hs q (h3 q e), fun b o e => hs b (h4 b o e)⟩
theorem MRunAt.kept {g : Nat} {la : Option Addr} {lc : Nat} {va : Value} (h : MRunAt w B g ro rc rs fold slices early lines n la lc va) (k : KeptBut T w w') (hg : ¬ T g) (hv : ∀ q, va.ownBlock = some q → ¬ T q) (hl : ∀ b o, la = some ⟨b, o, none⟩ → ¬ T b) : MRunAt w' B g ro rc rs fold slices early lines n la lc va :=
  ⟨h.bk.kept k hg, h.lo, h.sl.kept k hl, k.own h.own hv, ⟨h.apart.1, fun b o e => ⟨⟨(h.apart.2 b o e).1.1, Nat.lt_of_lt_of_le (h.apart.2 b o e).1.2 k.size⟩, (h.apart.2 b o e).2⟩⟩, h.at_le⟩
theorem MRunV.kept (h : MRunV w B ro rc rs fold slices early lines n S v) (k : KeptBut T w w') (hs : ∀ q, S q → ¬ T q) : MRunV w' B ro rc rs fold slices early lines n S v := by
  obtain ⟨g, la, lc, va, e, h1, h2, h3, h4⟩ := h
  exact ⟨g, la, lc, va, e, h1.kept k (hs g h2) (fun q e => hs q (h3 q e)) (fun b o e => hs b (h4 b o e)), h2, h3, h4⟩
theorem MRunV.later (h : MRunV w B ro rc rs fold slices early lines n S v) (hb : Below w.heap.size w w') : MRunV w' B ro rc rs fold slices early lines n S v := by
  obtain ⟨g, la, lc, va, e, h1, h2, h3, h4⟩ := h
  exact ⟨g, la, lc, va, e, h1.later hb, h2, h3, h4⟩
end
theorem MNew_run (ro : Option Addr) (rc : Nat) (rs : List RuleR) (fold slices : Int) (early : Bool) (d : Nat) (lo : Option Addr) (lc : Nat) (lines : List ByteArray) (w : World) (hj : JobAt w ro rs d) (hl : rs.length ≤ maxLen) (hs : Sl 1 encS w lo lines) (hn : lo = none → lc = 0) (hok : jobF (rs.map RuleR.v) fold slices = 0) (h60 : lines.length ≤ 60) :
    Calls Tryd.prog 20 #[.agg #[.slice ro rs.length rc, .int .i64 fold, .bool early, .int .i64 slices], .slice lo lines.length lc] w fun e w' => (∃ v, e = .returned (.tuple #[v, .nilIface]) ∧ MRunV w' w.heap.size ro rc rs fold slices early lines 0 (fun q => w.heap.size ≤ q ∧ q < w'.heap.size) v) ∧ Below w.heap.size w w' := by
  refine (MNew_lo ro rc rs fold slices early d lo lc lines w hj hl (by omega) hs hn hok h60).mono ?_
  rintro e w' ⟨⟨g, la, lc', rfl, h, hlo⟩, hb⟩
  exact ⟨⟨_, rfl, g, la, lc', _, rfl, h, ⟨h.lo, h.bk.lt⟩, fun q e => by simp [Value.ownBlock] at e, fun b o e => ⟨hlo b o e, (h.apart.2 b o e).1.2⟩⟩, hb⟩
theorem MStep_run {B : Nat} {ro : Option Addr} {rc : Nat} {rs : List RuleR} {fold slices : Int} {early : Bool} {lines : List ByteArray} {n : Nat} {S : Nat → Prop} {v : Value} (d : Nat) (many : Int) (w : World) (hB : B ≤ w.heap.size) (hg : ∀ w', Below B w w' → GM w') (hj : ∀ w', Below B w w' → JobAt w' ro rs d) (hok : JobOk rs fold slices) (h : MRunV w B ro rc rs fold slices early lines n S v) (hli : ∀ l ∈ lines, l.size ≤ 500) (hll : lines.length ≤ 1000) (hmany : many ≤ 9223372036854775807) :
    Calls Tryd.prog 21 #[v, .int .i64 many] w fun e w' => (e = .returned (.bool (decide (min (n + many.toNat) lines.length = lines.length))) ∧ MRunV w' B ro rc rs fold slices early lines (min (n + many.toNat) lines.length) (fun q => S q ∨ w.heap.size ≤ q) v) ∧ KeptBut S w w' := by
  obtain ⟨g, la, lc, va, rfl, h1, h2, h3, h4⟩ := h
  refine (MStep_any d many w hB hg hj hok h1 hli hll hmany).mono ?_
  rintro e w' ⟨va', ⟨rfl, k1, k2⟩, k3⟩
  exact ⟨⟨rfl, g, la, lc, va', rfl, k1, .inl h2, fun q e => (k2 q e).imp (h3 q) id, fun b o e => .inl (h4 b o e)⟩, k3.mono fun q hq => hq.elim (fun e => e ▸ h2) (h3 q)⟩
theorem MSlices_run {B : Nat} {ro : Option Addr} {rc : Nat} {rs : List RuleR} {fold : Int} {many : Nat} {early : Bool} {lines : List ByteArray} {n : Nat} {S : Nat → Prop} {v : Value} (w : World) (h : MRunV w B ro rc rs fold many early lines n S v) (hok : JobOk rs fold many) (hli : ∀ l ∈ lines, l.size ≤ 500) (hll : lines.length ≤ 1000) :
    Calls Tryd.prog 22 #[v] w fun e w' => ∃ ob vs, e = .returned (.slice (some ⟨ob, 0, none⟩) many many) ∧ Rws w' w.heap.size ob vs (cutP fold early many (madeL (rs.map RuleR.v) fold (lines.take n))) ∧ Below w.heap.size w w' := by
  obtain ⟨g, la, lc, va, rfl, h1, h2, h3, h4⟩ := h
  have hm := hok.slices
  have h5 := madeL_len (rs.map RuleR.v) fold (by rw [List.length_map]; exact hok.many.2) (lines.take n) (fun l hl => hli l (List.mem_of_mem_take hl))
  rw [List.length_take] at h5
  refine MSlices_any w h1 (by omega) (by omega) fun p hp => ?_
  have := (madeL_ok (rs := rs.map RuleR.v) (by intro r hr; obtain ⟨x, hx, rfl⟩ := List.mem_map.1 hr; exact hok.ok x hx) fold (lines := lines.take n) (fun l hl => hli l (List.mem_of_mem_take hl)) p hp).1
  unfold maxLen
  omega
end Go.Proofs.YtafogaopccajaaaDoor
