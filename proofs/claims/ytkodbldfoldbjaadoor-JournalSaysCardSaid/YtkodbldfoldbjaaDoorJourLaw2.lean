/- The journal: what is behind an entry is the end of its text. -/
import Derived.Test.YtkodbldfoldbjaaDoorJourLaw
set_option linter.unusedSimpArgs false
set_option linter.unusedVariables false
namespace Go.Proofs.YtkodbldfoldbjaaDoor
open Go.RowKit

theorem cutAt_end {c : UInt8} {S H R : List UInt8} (h : cutAt c S = (H, R, true)) : S = H ++ c :: R := by
  rcases first_of c S with hc | ⟨A, B, rfl, hA⟩
  · rw [cutAt_no hc] at h; cases h
  · rw [cutAt_yes hA] at h; cases h; rfl
theorem takeS_end : ∀ (z : List Int) (r : List UInt8) (x), takeS z r = some x → ∃ A, r = A ++ x.2
  | [], r, x, h => by rw [takeS_nil] at h; cases h; exact ⟨[], rfl⟩
  | k :: z, r, x, h => by
    rw [takeS_cons] at h
    split at h
    · cases h
    · obtain ⟨y, hy, rfl⟩ := Option.map_eq_some_iff.1 h
      obtain ⟨A, hA⟩ := takeS_end z _ y hy
      refine ⟨r.take k.toNat ++ A, ?_⟩
      show r = _ ++ y.2
      rw [List.append_assoc, ← hA, List.take_append_drop]
theorem oneE_end {s r : List UInt8} {e : En} (h : oneE s = some (e, r)) : ∃ A, s = A ++ r := by
  unfold oneE at h
  split at h
  · rename_i hc
    obtain ⟨n, _, h⟩ := Option.bind_eq_some_iff.1 h
    obtain ⟨z, _, h⟩ := Option.bind_eq_some_iff.1 h
    obtain ⟨T, h1, h⟩ := Option.bind_eq_some_iff.1 h
    obtain ⟨r', h2, h⟩ := Option.map_eq_some_iff.1 h
    cases h
    obtain ⟨A, hA⟩ := takeS_end _ _ _ h1
    rw [dotS_some h2] at hA
    obtain ⟨H, R, o, hq⟩ : ∃ H R o, cutAt 10 s = (H, R, o) := ⟨_, _, _, rfl⟩
    rw [hq] at hA hc
    obtain rfl : o = true := hc.1
    have h3 := cutAt_end hq
    dsimp only at hA
    refine ⟨H ++ 10 :: (A ++ [46]), ?_⟩
    rw [h3, hA]
    simp
  · cases h
theorem oneE_drop {s r : List UInt8} {e : En} (h : oneE s = some (e, r)) : s.drop (s.length - r.length) = r := by
  obtain ⟨A, rfl⟩ := oneE_end h
  rw [List.length_append, Nat.add_sub_cancel, List.drop_left]
end Go.Proofs.YtkodbldfoldbjaaDoor
