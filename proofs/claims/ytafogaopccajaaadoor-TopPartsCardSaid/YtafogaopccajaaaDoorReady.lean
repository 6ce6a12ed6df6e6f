/- The closed fact 'ready': a record as pairs. -/
import Derived.Test.YtafogaopccajaaaDoorMPairs
import Derived.Test.YtafogaopccajaaaDoorPairSum
set_option linter.unusedSimpArgs false
set_option linter.unusedVariables false
namespace Go.Proofs.YtafogaopccajaaaDoor
open Go.RowKit

def exLeaf (k : Int) : ExR := ⟨k, 0, ⟨#[]⟩, none, 0, []⟩
def ruleLM : RuleR := ⟨false, 0, exLeaf 0, ⟨#[]⟩, exLeaf 2, exLeaf 9⟩
theorem ruleLM_at (w : World) : RuleAt w 1 ruleLM := ⟨ExAt_leaf w 0 0 ⟨#[]⟩ (by decide) (by decide) (by decide), ExAt_leaf w 2 0 ⟨#[]⟩ (by decide) (by decide) (by decide), ExAt_leaf w 9 0 ⟨#[]⟩ (by decide) (by decide) (by decide), by decide⟩
theorem ruleLM_ok : RuleOk ruleLM.v := RuleOk.of (by decide +kernel)
theorem ruleLM_made : pairsJ [ruleLM.v] 1 ⟨#[97, 32, 98]⟩ = [(⟨#[97, 32, 98]⟩, 2)] := by decide +kernel
set_option maxRecDepth 100000 in
set_option maxHeartbeats 1000000 in
theorem ready_any (w : World) (hg : GM w) :
    Calls Tryd.prog 10 #[] w fun e w' => e = .returned (.bool true) ∧ Below w.heap.size w w' := by
  have hb1 : Below w.heap.size w (w.alloc (.cells (encRule ruleLM).toArray 38)) := (Below.refl _ _).alloc (Nat.le_refl _) _
  have hs1 : Sl 15 encRule (w.alloc (.cells (encRule ruleLM).toArray 38)) (some ⟨w.heap.size, 0, none⟩) [ruleLM] := Sl.lit encRule_len (heap_new w _) rfl
  go_enter Tryd.func10, Tryd.ntmps10
  go_upto_region 2 with (fail)
  have hW : w.alloc (.cells (encRule ruleLM).toArray 38) = w.alloc (.cells #[.bool false, .int .i64 0, .int .i64 0, .int .i64 0, .string ⟨#[]⟩, .slice none 0 0, .string ⟨#[]⟩, .int .i64 2, .int .i64 0, .string ⟨#[]⟩, .slice none 0 0, .int .i64 9, .int .i64 0, .string ⟨#[]⟩, .slice none 0 0] 38) := rfl
  rw [← hW]
  clear hW
  have HB1 := hide hb1
  have HS1 := hide hs1
  have hz1 : (w.alloc (.cells (encRule ruleLM).toArray 38)).heap.size = w.heap.size + 1 := by simp
  clear hb1 hs1
  generalize w.alloc (.cells (encRule ruleLM).toArray 38) = W1 at *
  rw [← hz1]
  have hb2 : Below W1.heap.size W1 (W1.alloc (.cells #[.slice (some ⟨w.heap.size, 0, none⟩) 1 1, .int .i64 1, .bool false, .int .i64 1] 24)) := (Below.refl _ _).alloc (Nat.le_refl _) _
  have hbj : Bk (W1.alloc (.cells #[.slice (some ⟨w.heap.size, 0, none⟩) 1 1, .int .i64 1, .bool false, .int .i64 1] 24)) W1.heap.size [.slice (some ⟨w.heap.size, 0, none⟩) 1 1, .int .i64 1, .bool false, .int .i64 1] := Bk.new rfl
  generalize W1.alloc (.cells #[.slice (some ⟨w.heap.size, 0, none⟩) 1 1, .int .i64 1, .bool false, .int .i64 1] 24) = W2 at *
  have HB2 := hide (HB1.out.trans (hb2.mono HB1.out.size))
  have HP := hide (Pairs_any (some ⟨w.heap.size, 0, none⟩) 1 [ruleLM] 1 1 false ⟨#[97, 32, 98]⟩ 1 W2 (hg.later HB2.out (Nat.le_refl _)) (by decide) (by decide) (HS1.out.later hb2 (Nat.le_refl _)) (fun r hr => by rw [List.mem_singleton.1 hr]; exact ruleLM_at _) (fun r hr => by rw [List.mem_singleton.1 hr]; exact ruleLM_ok))
  rw [show ([ruleLM].map RuleR.v) = [ruleLM.v] from rfl, ruleLM_made] at HP
  have j0 := hbj.get (j := 0) rfl
  have j1 := hbj.get (j := 1) rfl
  have j2 := hbj.get (j := 2) rfl
  have j3 := hbj.get (j := 3) rfl
  clear HS1 hb2 hbj hg hz1
  go_wp2_with fail
  refine HP.out.mono ?_
  rintro e w3 ⟨v, rfl, ho, b3⟩
  clear HP j0 j1 j2 j3
  obtain ⟨va, vc, rfl⟩ := id ho.1
  have hlit : Sl 2 encP (w3.alloc (.cells #[.string ⟨#[97, 32, 98]⟩, .int .i64 2] 54)) (some ⟨w3.heap.size, 0, none⟩) [(⟨#[97, 32, 98]⟩, 2)] := Sl.lit encP_len (heap_new w3 _) rfl
  have hba : Below w3.heap.size w3 (w3.alloc (.cells #[.string ⟨#[97, 32, 98]⟩, .int .i64 2] 54)) := (Below.refl _ _).alloc (Nat.le_refl _) _
  have HSP := hide (SamePairs_refl va (some ⟨w3.heap.size, 0, none⟩) vc 1 [(⟨#[97, 32, 98]⟩, 2)] _ (by decide) ((ho.sl encP_len).later hba (Nat.le_refl _)) hlit)
  have HB3 := hide (HB2.out.trans ((b3.mono HB2.out.size).trans (hba.mono (Nat.le_trans HB2.out.size b3.size))))
  clear ho b3 hlit hba
  go_wp2_with fail
  refine HSP.out.mono ?_
  rintro e w4 ⟨rfl, b4⟩
  have HB4 := hide (HB3.out.trans (b4.mono HB3.out.size))
  clear b4 HSP
  go_wp2
  go_ret
  exact ⟨rfl, HB4.out⟩
end Go.Proofs.YtafogaopccajaaaDoor
