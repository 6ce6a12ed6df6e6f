/- JournalSays: the closed fact. -/
import Derived.Test.YtkodbldfoldbjaaDoorJour6
set_option linter.unusedSimpArgs false
set_option linter.unusedVariables false
namespace Go.Proofs.YtkodbldfoldbjaaDoor
open Go.RowKit

def enOut : En := (⟨#[111, 117, 116]⟩, [1, 2], [⟨#[97, 98]⟩])
theorem enOut_ok : EnOk enOut := by
  refine ⟨⟨by decide, by decide, by decide, by decide⟩, ?_, ?_⟩
  · intro n hn
    simp [enOut] at hn
    rcases hn with rfl | rfl <;> decide
  · intro n hn
    simp [enOut, sizesOf] at hn
    subst hn
    decide
theorem enOut_text : tx (entT enOut) = ⟨#[111, 117, 116, 32, 49, 32, 50, 59, 32, 50, 10, 97, 98, 46]⟩ := by
  unfold entT enOut sizesOf
  simp only [List.map_cons, List.map_nil]
  rw [show ((⟨#[97, 98]⟩ : ByteArray).size : Int) = 2 from rfl]
  have i1 : Lib.itoa (1 : Int) = [49] := by
    rw [show (1 : Int) = ((1 : Nat) : Int) from rfl, Lib.itoa_nonneg 1, Lib.decDigits_one (by decide)]
    rfl
  have i2 : Lib.itoa (2 : Int) = [50] := by
    rw [show (2 : Int) = ((2 : Nat) : Int) from rfl, Lib.itoa_nonneg 2, Lib.decDigits_one (by decide)]
    rfl
  rw [numsT_cons, numsT_cons, i1, i2]
  rfl
set_option maxRecDepth 100000 in
set_option maxHeartbeats 2000000 in
theorem entries_any (w : World) (hg : GW w) :
    Calls Tryd.prog 48 #[] w fun e w' => e = .returned (.bool true) ∧ Below w.heap.size w w' := by
  have hb0 : Below w.heap.size w ((w.alloc (.cells #[.int .i64 1, .int .i64 2] 3)).alloc (.cells #[.string ⟨#[97, 98]⟩] 9)) :=
    ((Below.refl _ _).alloc (Nat.le_refl _) _).alloc (by simp) _
  have h1 : Sl 1 encInt ((w.alloc (.cells #[.int .i64 1, .int .i64 2] 3)).alloc (.cells #[.string ⟨#[97, 98]⟩] 9)) (some ⟨w.heap.size, 0, none⟩) [1, 2] := Sl.lit encInt_len (heap_old _ (heap_new w _)) rfl
  have h2 : Sl 1 encS ((w.alloc (.cells #[.int .i64 1, .int .i64 2] 3)).alloc (.cells #[.string ⟨#[97, 98]⟩] 9)) (some ⟨w.heap.size + 1, 0, none⟩) [⟨#[97, 98]⟩] := Sl.lit encS_len (heap_at (by simp)) rfl
  have HT := hide (JText_any ⟨#[111, 117, 116]⟩ (some ⟨w.heap.size, 0, none⟩) 2 [1, 2] (some ⟨w.heap.size + 1, 0, none⟩) 1 [⟨#[97, 98]⟩] _ (hg.later hb0 (Nat.le_refl _)) (by decide) (by decide) (by decide) enOut_ok.nums (by intro t ht; simp at ht; subst ht; decide) h1 h2 (by decide))
  rw [show tx (entT ((⟨#[111, 117, 116]⟩ : ByteArray), [1, 2], [⟨#[97, 98]⟩])) = ⟨#[111, 117, 116, 32, 49, 32, 50, 59, 32, 50, 10, 97, 98, 46]⟩ from enOut_text] at HT
  have HB := hide hb0
  have HG := hide hg
  clear hb0 h1 h2 hg
  go_enter Tryd.func48, Tryd.ntmps48
  go_wp2_with fail
  refine HT.out.mono ?_
  rintro e w1 ⟨rfl, b1⟩
  replace HB := hide (HB.out.trans (b1.mono HB.out.size))
  clear HT b1
  have HP := hide (ParseE_any ⟨#[111, 117, 116, 32, 49, 32, 50, 59, 32, 50, 10, 97, 98, 46]⟩ w1 (HG.out.later HB.out (Nat.le_refl _)) (by decide))
  unfold ParseEPost at HP
  rw [show (⟨#[111, 117, 116, 32, 49, 32, 50, 59, 32, 50, 10, 97, 98, 46]⟩ : ByteArray).data.toList = entT enOut ++ [] by rw [← enOut_text, tx_list, List.append_nil], show entT enOut ++ [] = [enOut].flatMap entT ++ [] by simp, parseE_text [enOut] [] (by intro e he; rw [List.mem_singleton.1 he]; exact enOut_ok), parseE_none oneE_nil] at HP
  go_wp2_with fail
  refine HP.out.mono ?_
  rintro e w2 ⟨v, rs, rfl, hrs, ho, _, b2⟩
  have hl : rs.length = 1 := by
    have := congrArg List.length hrs
    simpa using this
  obtain ⟨xa, xc, rfl⟩ := id ho.1
  rw [hl]
  have HB2 := hide (HB.out.trans (b2.mono HB.out.size))
  clear hrs ho b2 hl HP
  go_wp2
  go_ret
  exact ⟨rfl, HB2.out⟩
end Go.Proofs.YtkodbldfoldbjaaDoor
