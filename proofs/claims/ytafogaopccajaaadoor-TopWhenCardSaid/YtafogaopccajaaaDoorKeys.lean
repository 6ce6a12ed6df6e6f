/- keys of pairs. -/
import Derived.Test.YtafogaopccajaaaDoorPairs
import Derived.Test.YtafogaopccajaaaDoorTexts
import Derived.Test.YtafogaopccajaaaDoorWords
set_option linter.unusedSimpArgs false
set_option linter.unusedVariables false
namespace Go.Proofs.YtafogaopccajaaaDoor
open Go.RowKit

theorem infoStrK : (Tryd.prog.info? 9).map (fun i => (i.zero, i.size, i.bytes)) = some (some (.string ⟨#[]⟩), 1, 16) := by kernel_rfl
set_option maxHeartbeats 1000000 in
theorem keys_any (ao : Option Addr) (cap : Nat) (l : List Pr) (w : World) (hl : l.length ≤ 1000000) (hs : Sl 2 encP w ao l) :
    Calls Tryd.prog 16 #[.slice ao l.length cap] w fun e w' => ∃ v, e = .returned v ∧ Own 1 encS 9 w' w.heap.size v (l.map (·.1)) ∧ Below w.heap.size w w' := by
  obtain ⟨i0, hi, hz0, hz1, hz2⟩ := info_parts infoStrK
  have HS := hide hs
  clear hs
  go_enter Tryd.func16, Tryd.ntmps16
  go_wp2
  go_loopw [3, 4] (fun v i wr => ∃ k : Nat, k ≤ l.length ∧ i = .int .i64 k ∧ Hid (Own 1 encS 9 wr w.heap.size v ((l.take k).map (·.1))) ∧ Hid (Below w.heap.size w wr)) (fun _ i _ => l.length - (intOf i).toNat)
  case atStart => exact ⟨0, by omega, by go_num, Own.nil, Below.refl _ _⟩
  case round =>
    obtain ⟨k, hk, rfl, HOW, HBE⟩ := hrel
    by_cases hlt : k < l.length
    · obtain ⟨b, off, x, y, rfl, hbw, hlk, c0, c1⟩ := (HS.out.later HBE.out (Nat.le_refl _)).pair hlt
      have HSU : Hid ((l.take (k + 1)).map (·.1) = (l.take k).map (·.1) ++ [x]) := by
        obtain ⟨hlt2, hx⟩ := List.getElem?_eq_some_iff.1 hlk
        show _ = _
        rw [List.take_succ_eq_append_getElem hlt2, hx, List.map_append]; rfl
      have hle : ((l.take k).map (·.1)).length ≤ 1000000 := by rw [List.length_map, List.length_take]; omega
      clear hlk
      generalize (l.take k).map (·.1) = acc at *
      have f1 : (0 : Int) ≤ (k : Int) ∧ (k : Int) < (l.length : Int) := by omega
      obtain ⟨f1, f2⟩ := f1
      have HLE : Hid (acc.length + 1 ≤ 1000000000) := by show _ ≤ _; omega
      obtain ⟨ua, uc, rfl⟩ := id HOW.out.1
      have HOA := hide (HOW.out.alloc (.cells #[.string x] 9))
      have HBA := hide (HBE.out.alloc HBE.out.size (.cells #[.string x] 9))
      have HSZ : Hid (w.heap.size ≤ (wr.alloc (.cells #[.string x] 9)).heap.size) := HBA.out.size
      clear hle
      go_wp2_with (at_builtin; refine wpList_append_one encS_len _ _ 40 i0 _ rfl rfl Tryd.underlying40 hi hz0 hz1 hz2 rfl (by decide) (by decide) HOA.out HBA.out HSZ.out HLE.out rfl x ⟨wr.heap.size, 0, none⟩ 1 rfl (news_at rfl rfl) (one_str x) ?_)
      intro v' w1 ho hb _ _
      have HO := hide ho
      have HB := hide hb
      clear ho hb HOW HBE HOA HBA c0 c1
      go_wp2
      go_roundw
      case rel => exact ⟨k + 1, by omega, by go_num, by rw [HSU.out]; exact HO, HB⟩
      case measure => (simp [intOf]; try omega)
    · obtain rfl : k = l.length := by omega
      rw [List.take_length] at HOW
      go_wp2
      go_ret
      exact ⟨_, rfl, HOW.out, HBE.out⟩
end Go.Proofs.YtafogaopccajaaaDoor
