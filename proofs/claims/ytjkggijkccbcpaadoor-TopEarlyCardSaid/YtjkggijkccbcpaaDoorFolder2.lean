/- folder: New. -/
import Derived.Test.YtjkggijkccbcpaaDoorFolder
import Derived.Test.YtjkggijkccbcpaaDoorJobOpen
set_option linter.unusedSimpArgs false
set_option linter.unusedVariables false
namespace Go.Proofs.YtjkggijkccbcpaaDoor
open Go.RowKit

set_option maxHeartbeats 1000000 in
theorem New_bad (kind : Int) (ao : Option Addr) (cap n : Nat) (w : World) (hk : kindFault kind ≠ 0) :
    Calls Tryd.prog 5 #[.int .i64 kind, .slice ao n cap] w fun e w' => e = .returned (.tuple #[.pointer none, errV (kindFault kind)]) ∧ w = w' := by
  have HX := hide (foldCheck_any kind w)
  rw [errV_pos hk] at HX ⊢
  generalize kindFault kind = f at *
  clear hk
  go_enter Tryd.func5, Tryd.ntmps5
  go_wp2_with fail
  refine HX.out.mono ?_
  rintro e w1 ⟨rfl, rfl⟩
  clear HX
  go_wp2
  go_ret2
  exact ⟨rfl, rfl⟩
set_option maxHeartbeats 1000000 in
theorem New_any (kind : Int) (ao : Option Addr) (cap : Nat) (rs : List RowP) (w : World) (hk : kindFault kind = 0) (hl : rs.length ≤ 100000) (htot : (rowsL rs).flatten.length ≤ 100000000) (hr : ∀ l ∈ rowsL rs, Rise l) (hs : Sl 1 encRow w ao rs) (hrow : ∀ r ∈ rs, Sl 2 encP w r.1 r.2.2) :
    Calls Tryd.prog 5 #[.int .i64 kind, .slice ao rs.length cap] w fun e w' => (∃ g la lc, e = .returned (.tuple #[.pointer (some ⟨g, 0, none⟩), .nilIface]) ∧ RunAt w' w.heap.size g kind (srt (rowsL rs).flatten) 0 [] la lc (.slice none 0 0) ∧ ∀ b o, la = some ⟨b, o, none⟩ → b < w'.heap.size) ∧ Below w.heap.size w w' := by
  have HX := hide (foldCheck_any kind w)
  rw [hk, errV_zero] at HX
  have HM := hide (Merge_any ao cap rs w hl htot hr hs hrow)
  generalize srt (rowsL rs).flatten = L at *
  clear hk hl htot hr hs hrow
  go_enter Tryd.func5, Tryd.ntmps5
  go_wp2_with fail
  refine HX.out.mono ?_
  rintro e w1 ⟨rfl, rfl⟩
  clear HX
  go_wp2_with fail
  refine HM.out.mono ?_
  rintro e w2 ⟨v, rfl, o2, b2⟩
  obtain ⟨la, lc, rfl⟩ := id o2.1
  have hba : Below w2.heap.size w2 (w2.alloc (.cells #[.int .i64 kind, .slice la L.length lc, .int .i64 0, .slice none 0 0] 55)) := (Below.refl _ _).alloc (Nat.le_refl _) _
  have hRA : RunAt (w2.alloc (.cells #[.int .i64 kind, .slice la L.length lc, .int .i64 0, .slice none 0 0] 55)) w.heap.size w2.heap.size kind L 0 [] la lc (.slice none 0 0) := by
    refine ⟨Bk.new rfl, b2.size, (o2.sl encP_len).later hba (Nat.le_refl _), Own.nil, ⟨by simp [Value.ownBlock], ?_⟩, Nat.zero_le _⟩
    rintro b off rfl
    have := (o2.lt b rfl).2
    exact ⟨by omega, by simp [Value.ownBlock]⟩
  have HLA : Hid (∀ b o, la = some ⟨b, o, none⟩ → b < (w2.alloc (.cells #[.int .i64 kind, .slice la L.length lc, .int .i64 0, .slice none 0 0] 55)).heap.size) := by
    rintro b o rfl
    have h1 := (o2.lt b rfl).2
    have h2 := hba.size
    omega
  have HRA := hide hRA
  have HB := hide (b2.trans (hba.mono b2.size))
  clear HM o2 b2 hba hRA
  go_wp2
  go_ret2
  exact ⟨⟨_, _, _, rfl, HRA.out, HLA.out⟩, HB.out⟩
end Go.Proofs.YtjkggijkccbcpaaDoor
