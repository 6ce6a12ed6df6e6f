/- A job that comes in as an argument. -/
import Derived.Test.YtafogaopccajaaaDoorJob
set_option linter.unusedSimpArgs false
set_option linter.unusedVariables false
namespace Go.Proofs.YtafogaopccajaaaDoor
open Go.RowKit Go.ChangeShapes Go.WideShapes Go.ChangeAt

theorem slc_capJ {H : Type} {enc0 : TypeId × Value → H} {P : Program} {w : World} {t e : TypeId} {ao : Option Addr} {n cap : Nat}
    (ht : P.underlying t = some (.slice e)) {x : DataW H × List MemPlace} {fuel : Nat} (hf : DataW.trod enc0 P w 0 (fun _ => true) true fuel t [.slice ao n cap] = some x) : n ≤ cap ∧ cap ≤ maxLen := by
  rcases Deep.open_slice ht hf with ⟨hcs, _⟩ | ⟨a', len', cap', m, k, D, Pl, hcs, _, hl, hm, _⟩
  · simp at hcs
    obtain ⟨_, rfl, rfl⟩ := hcs
    exact ⟨by omega, by simp⟩
  · simp at hcs
    obtain ⟨_, rfl, rfl⟩ := hcs
    exact ⟨hl, hm⟩
theorem rules_deep {w : World} : ∀ {rs : List RuleR}, (∀ r ∈ rs, ∃ d, RuleAt w d r) → ∃ d, ∀ r ∈ rs, RuleAt w d r
  | [], _ => ⟨0, fun r hr => by cases hr⟩
  | a :: rs, h => by
    obtain ⟨d1, h1⟩ := h a List.mem_cons_self
    obtain ⟨d2, h2⟩ := rules_deep (rs := rs) fun r hr => h r (List.mem_cons_of_mem _ hr)
    refine ⟨max d1 d2, fun r hr => ?_⟩
    rcases List.mem_cons.1 hr with rfl | hr
    · exact h1.more (Nat.le_max_left _ _)
    · exact (h2 r hr).more (Nat.le_max_right _ _)
/-- a job that comes in -/
structure JobIn (w : World) (ro : Option Addr) (rc : Nat) (rs : List RuleR) (fold slices : Int) : Prop where
  nil : ro = none → rc = 0
  sl : Sl 15 encRule w ro rs
  len : rs.length ≤ maxLen
  at_ : ∀ r ∈ rs, ∃ d, RuleAt w d r
  cap : rs.length ≤ rc ∧ rc ≤ maxLen
  fold : -9223372036854775808 ≤ fold ∧ fold ≤ 9223372036854775807
  slices : -9223372036854775808 ≤ slices ∧ slices ≤ 9223372036854775807
theorem cells_job : Tryd.prog.cellsOf 24 = 4 := by kernel_rfl
theorem cells_rules : Tryd.prog.cellsOf 22 = 1 := by kernel_rfl
set_option maxRecDepth 100000 in
theorem open_job {H : Type} {enc0 : TypeId × Value → H} {w : World} {cs : Array Value} {d : DataW H} {ps : List MemPlace} (h : DataW.Trod enc0 Tryd.prog w 0 (fun _ => true) true 24 (.agg cs) d ps) :
    ∃ ro rc rs fold early slices, Value.agg cs = .agg #[.slice ro (List.length (α := RuleR) rs) rc, .int .i64 fold, .bool early, .int .i64 slices] ∧ JobIn w ro rc rs fold slices := by
  obtain ⟨fuel, hf⟩ := h
  obtain ⟨xs, n, _, _, hl, hlen, hf⟩ := DataW.trod_struct Tryd.underlying24 hf
  match xs, hlen with
  | [y0, y1, y2, y3], _ =>
    have h0 := by simpa using hf 0 _ rfl
    have h1 := by simpa using hf 1 _ rfl
    have h2 := by simpa using hf 2 _ rfl
    have h3 := by simpa using hf 3 _ rfl
    rw [cells_job] at hl
    obtain ⟨fold, e1, _, w1⟩ := DataW.trod_int Tryd.underlying3 h1
    obtain ⟨early, e2, _⟩ := DataW.trod_bool Tryd.underlying4 h2
    obtain ⟨slices, e3, _, w3⟩ := DataW.trod_int Tryd.underlying3 h3
    try dsimp only at e1 e2 e3 h0
    rw [cells_rules] at h0
    rw [cells_int] at e1 e3
    rw [cells_bool1] at e2
    obtain ⟨ro, rc, rs, e0, k1, k2, k3, k4⟩ := open_slc Tryd.underlying22 cells_rule (by decide) el_rule h0
    have hc := slc_capJ Tryd.underlying22 (e0 ▸ h0)
    have b1 := bounds_i64 w1
    have b3 := bounds_i64 w3
    match cs, hl with
    | ⟨[c0, c1, c2, c3]⟩, _ =>
      simp [Value.cells] at e0 e1 e2 e3
      exact ⟨ro, rc, rs, fold, early, slices, by rw [e0, e1, e2, e3], k1, k2, k3, k4, hc, by omega, by omega⟩
end Go.Proofs.YtafogaopccajaaaDoor
