/- What the rows of a law come to. -/
import Derived.Test.YtkodbldfoldbjaaDoorFolder
import Derived.Test.YtkodbldfoldbjaaDoorSmall
set_option linter.unusedSimpArgs false
set_option linter.unusedVariables false
namespace Go.Proofs.YtkodbldfoldbjaaDoor
open Go.RowKit

theorem lightPairs_row {l : List Pr} (h : lightPairs l 40 = true) : l.length ≤ 40 ∧ ∀ p ∈ l, p.1.size ≤ 60 := by
  have := light_of h
  exact ⟨by omega, this.2⟩
/-- what the rows of a law come to -/
structure RowsOk (rs : List RowP) : Prop where
  rise : ∀ l ∈ rowsL rs, Rise l
  tot : (rowsL rs).flatten.length ≤ 240
  small : ∀ p ∈ (rowsL rs).flatten, p.1.size ≤ 60 ∧ -9223372036854775808 ≤ p.2 ∧ p.2 ≤ 9223372036854775807
theorem RowsOk.of {rs : List RowP} (h6 : rs.length ≤ 6) (h : ∀ (i : Nat) r, i < rs.length → rs[i]? = some r → (r.2.2.length ≤ 40 ∧ ∀ p ∈ r.2.2, p.1.size ≤ 60) ∧ Rise r.2.2) (hv : ∀ r ∈ rs, ∀ p ∈ r.2.2, -9223372036854775808 ≤ p.2 ∧ p.2 ≤ 9223372036854775807) : RowsOk rs := by
  have hall : ∀ r ∈ rs, (r.2.2.length ≤ 40 ∧ ∀ p ∈ r.2.2, p.1.size ≤ 60) ∧ Rise r.2.2 := by
    intro r hr
    obtain ⟨i, hi⟩ := List.getElem?_of_mem hr
    exact h i r (List.getElem?_eq_some_iff.1 hi).1 hi
  refine ⟨fun l hl => ?_, ?_, fun p hp => ?_⟩
  · obtain ⟨r, hr, rfl⟩ := List.mem_map.1 hl
    exact (hall r hr).2
  · have := flat_len_le (ls := rowsL rs) (n := 40) (k := 6) (fun l hl => by obtain ⟨r, hr, rfl⟩ := List.mem_map.1 hl; exact (hall r hr).1.1) (by simpa [rowsL] using h6)
    omega
  · obtain ⟨l, hl, hp⟩ := List.mem_flatten.1 hp
    obtain ⟨r, hr, rfl⟩ := List.mem_map.1 hl
    exact ⟨(hall r hr).1.2 p hp, hv r hr p hp⟩
theorem RowsOk.srt {rs : List RowP} (h : RowsOk rs) : okP (srt (rowsL rs).flatten) ∧ (Go.Proofs.YtkodbldfoldbjaaDoor.srt (rowsL rs).flatten).length ≤ 240 ∧ ∀ p ∈ Go.Proofs.YtkodbldfoldbjaaDoor.srt (rowsL rs).flatten, p.1.size ≤ 60 ∧ -9223372036854775808 ≤ p.2 ∧ p.2 ≤ 9223372036854775807 := by
  have h1 : ∀ p ∈ Go.Proofs.YtkodbldfoldbjaaDoor.srt (rowsL rs).flatten, p.1.size ≤ 60 ∧ -9223372036854775808 ≤ p.2 ∧ p.2 ≤ 9223372036854775807 := fun p hp => h.small p (mem_srt.1 hp)
  have h2 : (Go.Proofs.YtkodbldfoldbjaaDoor.srt (rowsL rs).flatten).length ≤ 240 := by rw [srt_len]; exact h.tot
  exact ⟨⟨by omega, fun p hp => ⟨by have := (h1 p hp).1; omega, (h1 p hp).2⟩⟩, h2, h1⟩
theorem groups_small (k : Int) {l : List Pr} (hl : l.length ≤ 240) (h : ∀ p ∈ l, p.1.size ≤ 60 ∧ -9223372036854775808 ≤ p.2 ∧ p.2 ≤ 9223372036854775807) (c : Nat) : (textP ((groups k l).take c)).length ≤ 24720 := by
  have h1 : ∀ p ∈ groups k l, p.1.size ≤ 60 ∧ -9223372036854775808 ≤ p.2 ∧ p.2 ≤ 9223372036854775807 :=
    groups_all k _ (fun q p hq hp _ => ⟨hq.1, two_bd k q.2 p.2 hq.2 hp.2⟩) l h
  have h2 := textP_small ((groups k l).take c) fun p hp => h1 p (List.mem_of_mem_take hp)
  have h3 := groups_length k l
  rw [List.length_take] at h2
  omega
end Go.Proofs.YtkodbldfoldbjaaDoor
