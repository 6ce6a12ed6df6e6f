/- 'Names' returns true; the listed variables read as the program's text lays them (no other condition). -/
import Derived.Test.YtllibbdgnjcchaaDoorErr
import Derived.Test.YtllibbdgnjcchaaDoorNums
import Derived.Test.YtllibbdgnjcchaaDoorShelf
import Derived.Test.YtllibbdgnjcchaaDoorOpen
import Derived.Test.YtllibbdgnjcchaaDoorTie
import Derived.Test.YtllibbdgnjcchaaDoorCards
import Derived.LaidMore
import Derived.Stop.Joined
import Derived.SevenTiedAt
namespace Go.Proofs.YtllibbdgnjcchaaDoor
open Go.ChangeShapes Go.WideShapes Go.ChangeAt Go.RowKit

def encE (n : Int) : List Value := [.iface 23 (.int .i64 n)]
theorem Sl.err {w : World} {ao : Option Addr} {l : List Int} (h : Sl 1 encE w ao l) {k : Nat} (hk : k < l.length) :
    ∃ b off x, ao = some ⟨b, off, none⟩ ∧ b < w.heap.size ∧ l[k]? = some x ∧ w.cell? ⟨b, off + k, none⟩ = some (.iface 23 (.int .i64 x)) := by
  obtain ⟨b, off, e, hlt, hc⟩ := h (by omega)
  refine ⟨b, off, l[k], e, hlt, by simp [hk], ?_⟩
  have := hc k l[k] 0 _ (by simp [hk]) rfl
  simpa using this

theorem ErrorOf_nine (w : World) :
    Calls Tryd.prog 6 #[.int .i64 9] w fun e w' => e = .returned (.string ⟨#[116, 104, 114, 101, 115, 104, 102, 108, 111, 111, 114, 58, 32, 101, 114, 114, 111, 114, 32, 57]⟩) ∧ w = w' := by
  go_enter Tryd.func6, Tryd.ntmps6
  go_wp2_with fail
  refine (Tryd.strconv_Itoa_small 9 (by decide) _).mono ?_
  rintro e w' ⟨rfl, rfl⟩
  have hd : (⟨(Lib.decDigits 9).toArray⟩ : ByteArray) = ⟨#[57]⟩ := by decide +kernel
  rw [hd]
  clear hd
  go_wp2
  go_ret
  exact ⟨by first | rfl | decide +kernel, rfl⟩
def numsA : List Int := [20, 1000000000, 120, 60, 4, 5, 30, 20, 4, 6, 4, 3, 4, 9, 800, 80, 300]
def numsB : List Int := [1, 2, 3, 4, 5, 6, 7, 8, 9, 10, 0, 1, 2, 1, 2, 3, 4, 0, 1, 2]
set_option maxRecDepth 100000 in
set_option maxHeartbeats 2000000 in
theorem Names_walk (w : World) : Calls Tryd.prog 3 #[] w fun e w' => e = .returned (.bool true) ∧ Below w.heap.size w w' := by
  obtain ⟨i0, hi, hz0, hz1, hz2⟩ := info_parts infoInt
  go_enter Tryd.func3, Tryd.ntmps3
  go_wp2_with (at_builtin; refine wpList_append_list (l := numsA) encInt_len (.tmp 7) (.tmp 8) 22 i0 _ rfl rfl Tryd.underlying22 hi hz0 hz1 hz2 rfl (by decide) (by decide) (Own.lit (g := w.heap.size) encInt_len (heap_old _ (heap_old _ (heap_new _ _))) (Nat.le_refl _) rfl (by decide)) ((((Below.refl _ _).alloc (Nat.le_refl _) _).alloc ?c1 _).alloc ?c2 _) ?c3 numsB ?c4 rfl ⟨w.heap.size + 1 + 1, 0, none⟩ 20 20 rfl rfl (news_at ?c5 rfl) ?c6 ?_)
  case c1 => simp
  case c2 => simp; omega
  case c3 => simp; omega
  case c4 => decide
  case c5 => simp
  case c6 => exact one_flat one_int
  intro v1 w1 own1 hb1 hgr hat1
  have hsz : w.heap.size + 3 ≤ w1.heap.size := by have := hgr.size; simp at this; omega
  have hblk : w1.heap[w.heap.size + 1]? = some (.cells #[.int .i64 20, .int .i64 1000000000, .int .i64 120, .int .i64 60, .int .i64 4, .int .i64 5, .int .i64 30, .int .i64 20, .int .i64 4, .int .i64 6, .int .i64 4, .int .i64 3, .int .i64 4, .int .i64 9, .int .i64 800, .int .i64 80, .int .i64 300] 3) := by
    rw [hgr.block (w.heap.size + 1) (by simp) (by simp [Value.ownBlock])]
    exact heap_old _ (heap_at (by simp))
  have own2 : Own 1 encInt 3 w1 w.heap.size (.slice (some ⟨w.heap.size + 1, 0, none⟩) 17 17) numsA := Own.lit (l := numsA) encInt_len hblk (by omega) rfl (by decide)
  clear hblk hgr
  go_wp2_with (at_builtin; refine wpList_append_list (l := numsA) encInt_len (.tmp 10) (.tmp 11) 22 i0 _ rfl rfl Tryd.underlying22 hi hz0 hz1 hz2 rfl (by decide) (by decide) (own2.alloc _) (hb1.alloc ?d1 _) ?d2 numsB ?d3 rfl ⟨w1.heap.size, 0, none⟩ 20 20 rfl rfl (news_at ?d4 rfl) ?d5 ?_)
  case d1 => omega
  case d2 => simp; omega
  case d3 => decide
  case d4 => rfl
  case d5 => exact one_flat one_int
  intro v2 w2 own3 hb2 hgr _
  have own4 : Own 1 encInt 3 w2 w.heap.size v1 (numsA ++ numsB) := by
    refine ⟨own1.1, ?_⟩
    have h2 := own1.2.alloc (.cells #[.int .i64 1, .int .i64 2, .int .i64 3, .int .i64 4, .int .i64 5, .int .i64 6, .int .i64 7, .int .i64 8, .int .i64 9, .int .i64 10, .int .i64 0, .int .i64 1, .int .i64 2, .int .i64 1, .int .i64 2, .int .i64 3, .int .i64 4, .int .i64 0, .int .i64 1, .int .i64 2] 3)
    refine h2.kept hgr (.inr ?_)
    intro e
    rcases hat1 with h | h
    · rw [h] at e; simp [Value.ownBlock] at e
    · rw [h] at e; simp [Value.ownBlock] at e; omega
  clear own1 own2 hgr hat1
  have hnn : (numsA ++ numsB).length ≤ maxLen := by decide
  generalize numsA ++ numsB = nn at own3 own4 hnn
  have HNN := hide hnn; clear hnn
  obtain ⟨⟨vo, vc, rfl⟩, _⟩ := id own4
  obtain ⟨⟨uo, uc, rfl⟩, _⟩ := id own3
  go_wp2
  go_loopw [4] (fun i wr => ∃ k : Nat, k ≤ 9 ∧ i = .int .i64 k ∧ Below (w2.heap.size + 1) (w2.alloc (.cells #[.iface 23 (.int .i64 1), .iface 23 (.int .i64 2), .iface 23 (.int .i64 3), .iface 23 (.int .i64 4), .iface 23 (.int .i64 5), .iface 23 (.int .i64 6), .iface 23 (.int .i64 7), .iface 23 (.int .i64 8), .iface 23 (.int .i64 9)] 27)) wr) (fun i _ => 9 - (intOf i).toNat)
  case atStart => exact ⟨0, by omega, rfl, Below.refl _ _⟩
  case round =>
    obtain ⟨k, hk, rfl, hnx⟩ := hrel
    have hsl : Sl 1 encE wr (some ⟨w2.heap.size, 0, none⟩) [1, 2, 3, 4, 5, 6, 7, 8, 9] := by
      refine Sl.lit (fun _ => rfl) (cs := #[.iface 23 (.int .i64 1), .iface 23 (.int .i64 2), .iface 23 (.int .i64 3), .iface 23 (.int .i64 4), .iface 23 (.int .i64 5), .iface 23 (.int .i64 6), .iface 23 (.int .i64 7), .iface 23 (.int .i64 8), .iface 23 (.int .i64 9)]) (t := 27) (fr := (0, 0)) ?_ rfl
      rw [hnx.block _ (by omega)]; exact heap_new _ _
    by_cases hlt : k < 9
    · obtain ⟨_, _, x, e1, _, hx, c0⟩ := hsl.err (k := k) hlt
      cases e1
      rw [Nat.zero_add] at c0
      have hxk : x = (k : Int) + 1 := by
        rcases (show k = 0 ∨ k = 1 ∨ k = 2 ∨ k = 3 ∨ k = 4 ∨ k = 5 ∨ k = 6 ∨ k = 7 ∨ k = 8 by omega) with h | h | h | h | h | h | h | h | h <;> subst h <;> simpa using hx.symm
      subst hxk
      clear hx
      have hne : ((k : Int) + 1) ≠ 0 := by omega
      go_wp2_with fail
      refine (same_err ((k : Int) + 1) ((k : Int) + 1) _ (by omega)).mono ?_
      rintro e w3 ⟨rfl, rfl⟩
      have hd : decide ((k : Int) + 1 = (k : Int) + 1) = true := by simp
      rw [hd]
      clear hd
      go_wp2
      go_roundw
      case rel => exact ⟨k+1, by omega, by go_num, hnx⟩
      case measure => simp [intOf]; omega
    · have hb3 : Below w.heap.size w wr := (hb2.alloc (by have := hb2.size; omega) _).trans (hnx.mono (by have := hb2.size; omega))
      have o3 := (own3.alloc (.cells #[.iface 23 (.int .i64 1), .iface 23 (.int .i64 2), .iface 23 (.int .i64 3), .iface 23 (.int .i64 4), .iface 23 (.int .i64 5), .iface 23 (.int .i64 6), .iface 23 (.int .i64 7), .iface 23 (.int .i64 8), .iface 23 (.int .i64 9)] 27)).later (w' := wr) (hnx.mono (Nat.le_of_eq (heap_size _ _)))
      have o4 := (own4.alloc (.cells #[.iface 23 (.int .i64 1), .iface 23 (.int .i64 2), .iface 23 (.int .i64 3), .iface 23 (.int .i64 4), .iface 23 (.int .i64 5), .iface 23 (.int .i64 6), .iface 23 (.int .i64 7), .iface 23 (.int .i64 8), .iface 23 (.int .i64 9)] 27)).later (w' := wr) (hnx.mono (Nat.le_of_eq (heap_size _ _)))
      go_wp2_with fail
      refine (SameNumbers_refl vo uo vc uc nn _ HNN.out (o4.sl encInt_len) (o3.sl encInt_len)).mono ?_
      rintro e w3 ⟨rfl, hb4⟩
      go_wp2_with fail
      refine (ErrorOf_nine _).mono ?_
      rintro e w4 ⟨rfl, rfl⟩
      go_wp2
      go_ret
      exact ⟨rfl, hb3.trans (hb4.mono hb3.size)⟩
set_option maxRecDepth 100000 in
theorem Names_door (os : Os) (args : Array Value) : laidMetH Tryd.prog Rows.namesRow.laid ((World.doorLaid Tryd.prog 24 os).forCall (fun _ _ => 0) ⟨#[], args, []⟩).memory :=
  laidMetH_of_parts3 (fuel := 8) (laidMet_of_run' 8 (by kernel_rfl) (by kernel_rfl)) (by kernel_rfl) (by kernel_rfl)
set_option maxRecDepth 100000 in
theorem Names_lifted (os : Os) (started : os.Started) (H : Type) (enc : TypeId × Value → H) :
    ReturnsInHanded {} Tryd.checked os 3 .any (fun w args => (Rows.namesSpec.pre enc Tryd.prog Tryd.f3 [] false w args ∧ laidMetH Tryd.prog Rows.namesRow.laid w) ∧ sizedMet enc Tryd.prog Tryd.f3 (OpenSpec.ofChange Rows.namesSpec) false w args)
      (Rows.namesSpec.post enc Tryd.prog Tryd.f3 false true false false) := by
  refine returnsInHanded_of_change_and (C := Tryd.checked) (X := fun w _ => laidMetH Tryd.prog Rows.namesRow.laid w) (fun _ _ _ hh h => h.of_heap hh) own started (by kernel_rfl) Tryd.func3
    (ChangeSpec.witness_shaped (enc := enc) (C := Tryd.checked) (os := os) (X := fun w _ => laidMetH Tryd.prog Rows.namesRow.laid w) false (World.doorLaid Tryd.prog 24 os) #[] 8 rfl (World.shaped_of_RefB (by kernel_rfl) (by kernel_rfl)) (by kernel_rfl) (by kernel_rfl) (by kernel_rfl) (Names_door os _)) ?_
  intro W base args ds gs before hval0 hW _ _ hL _
  have hval : ∀ (j : Nat) t v, Tryd.f3.params[j]? = some t → args[j]? = some v → Value.okWide Tryd.prog W .any base t v := hval0
  have hW' := hW
  obtain ⟨p, q, hA0, hV, rfl, hfz, hnd⟩ := hW
  have hA : DataW.TrodAll enc Tryd.prog W 0 (fun _ => true) true Tryd.f3.params.toList args.toList ds p := hA0
  rw [Tryd.params3] at hA hval
  obtain ⟨hargs, rfl, rfl⟩ := trodAll_nil hA
  obtain rfl : args = #[] := by cases args; simp_all
  obtain ⟨rfl, rfl⟩ := trodVars_none hV
  clear hA0 hval0
  refine (Names_walk W).mono fun e W' ⟨he, bel⟩ => ?_
  subst he
  exact ⟨_, rfl, _, _, _, [], _, [], hW', trodAll_mk1 (shut_bool Tryd.underlying4 _), trodAll_mk0, rfl, bel.frame _, fun h => by cases h⟩

theorem Names_row : Rows.namesRow.holds Tryd.pinned (OpenSpec.ofChange Rows.namesSpec) :=
  OpenClaim.holds_of_wide 3 Tryd.f3 rfl rfl rfl rfl rfl rfl rfl ⟨rfl, rfl, rfl, rfl, rfl⟩ rfl rfl rfl rfl rfl (by kernel_rfl) Tryd.func3 (by kernel_rfl)
    (of_decide_eq_true (by kernel_rfl)) (by unfold Func.isWrapper; first | (rw [if_pos (by decide +kernel)]; kernel_rfl) | (rw [if_neg (by decide +kernel)]; exact ⟨rfl, rfl⟩))
    (fun os started H enc _ => Names_lifted os started H enc)
theorem Names_card : Rows.NamesCardSaid :=
  Claim7.holds_tied_plain_at .later [] [.data, .data, .data] true (true, "91a976ea227e9b40f185d1adbd167bb3868ce64428ca7ae69a840691d3799696") true
    Names_row (fun _ h => by cases h) (by kernel_rfl) (fun _ h => by cases h) names_row_tie rfl ⟨rfl, rfl⟩ (by kernel_rfl) rfl
    (fun f fn hf hfn => by
      obtain rfl : f = 3 := Option.some.inj ((show Tryd.prog.funcNamed Rows.namesRow.func = some 3 by kernel_rfl).symm.trans hf) |>.symm
      obtain rfl : fn = Tryd.f3 := (Option.some.inj (Tryd.func3.symm.trans hfn)).symm
      exact ⟨by kernel_rfl, fun j t ht => by
        rw [Tryd.params3] at ht
        simp at ht⟩)
    (by kernel_rfl)
#print axioms Names_card
end Go.Proofs.YtllibbdgnjcchaaDoor
