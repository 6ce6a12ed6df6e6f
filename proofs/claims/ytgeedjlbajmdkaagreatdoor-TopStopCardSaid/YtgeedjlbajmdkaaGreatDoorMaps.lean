/- law.maps; a run, bounded. -/
import Derived.Test.YtgeedjlbajmdkaaGreatDoorMPairs
import Derived.Test.YtgeedjlbajmdkaaGreatDoorPairSum
import Derived.Test.YtgeedjlbajmdkaaGreatDoorMSave
import Derived.Test.YtgeedjlbajmdkaaGreatDoorLightJob
import Derived.Test.YtgeedjlbajmdkaaGreatDoorRefMade
set_option linter.unusedSimpArgs false
set_option linter.unusedVariables false
/- The closed fact 'ready': a record as pairs. -/
namespace Go.Proofs.YtgeedjlbajmdkaaGreatDoor
open Go.RowKit

def exLeaf (k : Int) : ExR := ⟨k, 0, ⟨#[]⟩, none, 0, []⟩
def ruleLM : RuleR := ⟨false, 0, exLeaf 0, ⟨#[]⟩, exLeaf 2, exLeaf 9⟩
theorem ruleLM_at (w : World) : RuleAt w 1 ruleLM := ⟨ExAt_leaf w 0 0 ⟨#[]⟩ (by decide) (by decide) (by decide), ExAt_leaf w 2 0 ⟨#[]⟩ (by decide) (by decide) (by decide), ExAt_leaf w 9 0 ⟨#[]⟩ (by decide) (by decide) (by decide), by decide⟩
theorem ruleLM_ok : RuleOk ruleLM.v := RuleOk.of (by decide +kernel)
theorem ruleLM_made : pairsJ [ruleLM.v] 1 ⟨#[97, 32, 98]⟩ = [(⟨#[97, 32, 98]⟩, 2)] := by decide +kernel
end Go.Proofs.YtgeedjlbajmdkaaGreatDoor
namespace Go.Proofs.YtgeedjlbajmdkaaGreatDoor
open Go.RowKit

theorem MRunV.bound {w : World} {B : Nat} {ro : Option Addr} {rc : Nat} {rs : List RuleR} {fold slices : Int} {early : Bool} {lines : List ByteArray} {n : Nat} {S : Nat → Prop} {v : Value} (h : MRunV w B ro rc rs fold slices early lines n S v) : MRunV w B ro rc rs fold slices early lines n (fun q => S q ∧ q < w.heap.size) v := by
  obtain ⟨g, la, lc, va, e, h1, h2, h3, h4⟩ := h
  exact ⟨g, la, lc, va, e, h1, ⟨h2, h1.bk.lt⟩, fun q e => ⟨h3 q e, (h1.own.lt q e).2⟩, fun b o e => ⟨h4 b o e, (h1.apart.2 b o e).1.2⟩⟩
def ruleI7 : RuleR := ⟨true, 0, exLeaf 0, ⟨#[]⟩, exLeaf 1, ⟨7, 7, ⟨#[]⟩, none, 0, []⟩⟩
theorem ruleI7_at (w : World) : RuleAt w 1 ruleI7 := ⟨ExAt_leaf w 0 0 ⟨#[]⟩ (by decide) (by decide) (by decide), ExAt_leaf w 1 0 ⟨#[]⟩ (by decide) (by decide) (by decide), ExAt_leaf w 7 7 ⟨#[]⟩ (by decide) (by decide) (by decide), by decide⟩
theorem ruleI7_ok : RuleOk ruleI7.v := RuleOk.of (by decide +kernel)
theorem ruleI7_made : pairsJ [ruleI7.v] 1 ⟨#[97, 32, 98]⟩ = [(⟨#[97]⟩, 7), (⟨#[98]⟩, 7)] := by decide +kernel
set_option maxRecDepth 100000 in
set_option maxHeartbeats 4000000 in
theorem maps_any (w : World) (hg : GM w) :
    Calls Tryz.prog 16 #[] w fun e w' => e = .returned (.bool true) ∧ Below w.heap.size w w' := by
  have HG := hide hg
  clear hg
  go_enter Tryz.func16, Tryz.ntmps16
  go_upto_region 2 with (fail)
  have hW : w.alloc (.cells (encRule ruleI7).toArray 69) = w.alloc (.cells #[.bool true, .int .i64 0, .int .i64 0, .int .i64 0, .string ⟨#[]⟩, .slice none 0 0, .string ⟨#[]⟩, .int .i64 1, .int .i64 0, .string ⟨#[]⟩, .slice none 0 0, .int .i64 7, .int .i64 7, .string ⟨#[]⟩, .slice none 0 0] 69) := rfl
  rw [← hW]
  clear hW
  have hb1 : Below w.heap.size w (w.alloc (.cells (encRule ruleI7).toArray 69)) := (Below.refl _ _).alloc (Nat.le_refl _) _
  have hs1 : Sl 15 encRule (w.alloc (.cells (encRule ruleI7).toArray 69)) (some ⟨w.heap.size, 0, none⟩) [ruleI7] := Sl.lit encRule_len (heap_new w _) rfl
  have hz1 : (w.alloc (.cells (encRule ruleI7).toArray 69)).heap.size = w.heap.size + 1 := by simp
  have HB1 := hide hb1
  generalize w.alloc (.cells (encRule ruleI7).toArray 69) = W1 at *
  have hb2 : Below W1.heap.size W1 (W1.alloc (.cells #[.slice (some ⟨w.heap.size, 0, none⟩) 1 1, .int .i64 1, .bool false, .int .i64 1] 24)) := (Below.refl _ _).alloc (Nat.le_refl _) _
  have hbp : Bk (W1.alloc (.cells #[.slice (some ⟨w.heap.size, 0, none⟩) 1 1, .int .i64 1, .bool false, .int .i64 1] 24)) W1.heap.size [.slice (some ⟨w.heap.size, 0, none⟩) 1 1, .int .i64 1, .bool false, .int .i64 1] := Bk.new rfl
  have HS2 := hide (hs1.later hb2 (Nat.le_refl _))
  have HB2 := hide (HB1.out.trans (hb2.mono HB1.out.size))
  rw [← hz1]
  generalize W1.alloc (.cells #[.slice (some ⟨w.heap.size, 0, none⟩) 1 1, .int .i64 1, .bool false, .int .i64 1] 24) = W2 at *
  have HP := hide (Pairs_any (some ⟨w.heap.size, 0, none⟩) 1 [ruleI7] 1 1 false ⟨#[97, 32, 98]⟩ 1 W2 (HG.out.later HB2.out (Nat.le_refl _)) (by decide) (by decide) HS2.out (fun r hr => by rw [List.mem_singleton.1 hr]; exact ruleI7_at _) (fun r hr => by rw [List.mem_singleton.1 hr]; exact ruleI7_ok))
  rw [show ([ruleI7].map RuleR.v) = [ruleI7.v] from rfl, ruleI7_made] at HP
  have p0 := hbp.get (j := 0) rfl
  have p1 := hbp.get (j := 1) rfl
  have p2 := hbp.get (j := 2) rfl
  have p3 := hbp.get (j := 3) rfl
  clear hb1 hs1 hz1 hb2 hbp HS2 HB1
  go_wp2_with fail
  refine HP.out.mono ?_
  rintro e w2 ⟨pv, rfl, op, b2⟩
  obtain ⟨pa, pc, rfl⟩ := id op.1
  have HB3 := hide (HB2.out.trans (b2.mono HB2.out.size))
  have hba : Below w2.heap.size w2 (w2.alloc (.cells #[.string ⟨#[97]⟩, .int .i64 7, .string ⟨#[98]⟩, .int .i64 7] 101)) := (Below.refl _ _).alloc (Nat.le_refl _) _
  have HSP := hide (SamePairs_refl pa (some ⟨w2.heap.size, 0, none⟩) pc 2 [(⟨#[97]⟩, 7), (⟨#[98]⟩, 7)] (w2.alloc (.cells #[.string ⟨#[97]⟩, .int .i64 7, .string ⟨#[98]⟩, .int .i64 7] 101)) (by decide) ((op.sl encP_len).later hba (Nat.le_refl _)) (Sl.lit encP_len (heap_new _ _) rfl))
  have HB4 := hide (HB3.out.trans (hba.mono HB3.out.size))
  clear p0 p1 p2 p3 op b2 HP hba HB2
  go_wp2_with fail
  refine HSP.out.mono ?_
  rintro e w3 ⟨rfl, b3⟩
  have HB5 := hide (HB4.out.trans (b3.mono HB4.out.size))
  go_wp2
  go_ret
  exact ⟨rfl, HB5.out⟩
end Go.Proofs.YtgeedjlbajmdkaaGreatDoor
