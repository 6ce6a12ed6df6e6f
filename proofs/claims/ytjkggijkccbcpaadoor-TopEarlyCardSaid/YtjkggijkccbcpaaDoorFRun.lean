/- folder: a run as a value: New, Step, Out. -/
import Derived.Test.YtjkggijkccbcpaaDoorFolder3
import Derived.Test.YtjkggijkccbcpaaDoorJobOpen
set_option linter.unusedSimpArgs false
set_option linter.unusedVariables false
namespace Go.Proofs.YtjkggijkccbcpaaDoor
open Go.RowKit

theorem Stand.cap {kind : Int} {L : List Pr} {n d : Nat} (h : Stand kind L n d) : Stand kind L n (min d (groups kind L).length) ∧ (groups kind L).take d = (groups kind L).take (min d (groups kind L).length) := by
  have e : (groups kind L).take d = (groups kind L).take (min d (groups kind L).length) := by
    rcases Nat.le_total d (groups kind L).length with h1 | h1
    · rw [Nat.min_eq_left h1]
    · rw [Nat.min_eq_right h1, List.take_of_length_le h1, List.take_length]
  exact ⟨⟨by rw [h.out, e], h.brk, h.over.trans ⟨fun _ => by omega, fun _ => by omega⟩⟩, e⟩
/-- a run as a value: c keys of it are out; it lies in blocks of S -/
def RunV (w : World) (B : Nat) (kind : Int) (L : List Pr) (c : Nat) (S : Nat → Prop) (v : Value) : Prop :=
  ∃ g n la lc va, v = .pointer (some ⟨g, 0, none⟩) ∧ RunAt w B g kind L n ((groups kind L).take c) la lc va ∧ Stand kind L n c ∧ c ≤ (groups kind L).length ∧ S g ∧ (∀ q, va.ownBlock = some q → S q) ∧ ∀ b o, la = some ⟨b, o, none⟩ → b < w.heap.size
theorem RunV.later {w w' : World} {B : Nat} {kind : Int} {L : List Pr} {c : Nat} {S : Nat → Prop} {v : Value} (h : RunV w B kind L c S v) (hb : Below w.heap.size w w') : RunV w' B kind L c S v := by
  obtain ⟨g, n, la, lc, va, e, h1, h2, h3, h4, h5, h6⟩ := h
  exact ⟨g, n, la, lc, va, e, h1.later hb, h2, h3, h4, h5, fun b o e => Nat.lt_of_lt_of_le (h6 b o e) hb.size⟩
theorem RunV.ptr {w : World} {B : Nat} {kind : Int} {L : List Pr} {c : Nat} {S : Nat → Prop} {v : Value} (h : RunV w B kind L c S v) : ∃ g, v = .pointer (some ⟨g, 0, none⟩) := by
  obtain ⟨g, n, la, lc, va, e, _⟩ := h
  exact ⟨g, e⟩
theorem run_okP {L : List Pr} (h : okP L) (kind : Int) (c : Nat) : okP ((groups kind L).take c) := (h.groups kind).sub (List.take_sublist _ _)
/-- New, as a value -/
theorem New_run (kind : Int) (ao : Option Addr) (cap : Nat) (rs : List RowP) (w : World) (hk : kindFault kind = 0) (hl : rs.length ≤ 100000) (htot : (rowsL rs).flatten.length ≤ 100000000) (hr : ∀ l ∈ rowsL rs, Rise l) (hs : Sl 1 encRow w ao rs) (hrow : ∀ r ∈ rs, Sl 2 encP w r.1 r.2.2) :
    Calls Tryd.prog 5 #[.int .i64 kind, .slice ao rs.length cap] w fun e w' => (∃ g, e = .returned (.tuple #[.pointer (some ⟨g, 0, none⟩), .nilIface]) ∧ RunV w' w.heap.size kind (srt (rowsL rs).flatten) 0 (fun q => w.heap.size ≤ q ∧ q < w'.heap.size) (.pointer (some ⟨g, 0, none⟩))) ∧ Below w.heap.size w w' := by
  refine (New_any kind ao cap rs w hk hl htot hr hs hrow).mono ?_
  rintro e w' ⟨⟨g, la, lc, rfl, h, hla⟩, hb⟩
  refine ⟨⟨g, rfl, g, 0, la, lc, _, rfl, by rw [List.take_zero]; exact h, Stand.zero, Nat.zero_le _, ⟨h.lo, h.bk.lt⟩, fun q e => by simp [Value.ownBlock] at e, hla⟩, hb⟩
theorem Step_run {B : Nat} {kind : Int} {L : List Pr} {c : Nat} {S : Nat → Prop} {v : Value} (many : Int) (w : World) (hB : B ≤ w.heap.size) (h : RunV w B kind L c S v) (hL : L.length ≤ 1000000) (hmany : many ≤ 9223372036854775807) :
    Calls Tryd.prog 13 #[v, .int .i64 many] w fun e w' => (e = .returned (.bool (decide (min (c + many.toNat) (groups kind L).length = (groups kind L).length))) ∧ RunV w' B kind L (min (c + many.toNat) (groups kind L).length) (fun q => S q ∨ w.heap.size ≤ q) v) ∧ KeptBut S w w' := by
  obtain ⟨g, n, la, lc, va, rfl, h1, h2, h3, h4, h5, h6⟩ := h
  refine (Step_any many w hB h1 h2 hL hmany).mono ?_
  rintro e w' ⟨n', va', ⟨rfl, k1, k2, k3⟩, k4⟩
  obtain ⟨k5, k6⟩ := k2.cap
  refine ⟨⟨?_, g, n', la, lc, va', rfl, by rw [← k6]; exact k1, k5, Nat.min_le_right _ _, .inl h4, fun q e => (k3 q e).imp (h5 q) id, fun b o e => Nat.lt_of_lt_of_le (h6 b o e) k4.size⟩, k4.mono fun q hq => hq.elim (fun e => e ▸ h4) (h5 q)⟩
  refine ret_b (decide_eq_decide.2 (Iff.trans ⟨fun h => ?_, fun h => ?_⟩ k5.over.symm)) <;> omega
theorem Out_run {B : Nat} {kind : Int} {L : List Pr} {c : Nat} {S : Nat → Prop} {v : Value} (w : World) (hg : GT w) (h : RunV w B kind L c S v) (hok : okP L) :
    Calls Tryd.prog 6 #[v] w fun e w' => e = .returned (.string (tx (textP ((groups kind L).take c)))) ∧ Below w.heap.size w w' := by
  obtain ⟨g, n, la, lc, va, rfl, h1, h2, h3, h4, h5, h6⟩ := h
  exact Out_any w hg h1 (run_okP hok kind c)
end Go.Proofs.YtjkggijkccbcpaaDoor
