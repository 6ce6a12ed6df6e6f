/- Package tasks, the rest: Next, New, Lose. -/
import Derived.Test.YtllibbdgnjcchaaTasks2
import Derived.RegionTactic
namespace Go.Proofs.Ytllibbdgnjcchaa
open Go.RowKit

def nextT (ps ss : List (Int × Int)) : Bool × Int × Bool :=
  if allDone ss then (false, 0, false) else if 0 ≤ firstW ps then (false, firstW ps, true) else if firstW ss < 0 ∨ allDone ps = false then (false, 0, false) else (true, firstW ss, true)
def triple (t : Bool × Int × Bool) : Value := .tuple #[.bool t.1, .int .i64 t.2.1, .bool t.2.2]
set_option maxHeartbeats 1000000 in
theorem Next_any {w : World} {base tb pb sb : Nat} {ps ss : List (Int × Int)} (h : RT w base tb pb sb ps ss) :
    Calls Try.prog 59 #[.pointer (some ⟨tb, 0, none⟩)] w fun e w' => e = .returned (triple (nextT ps ss)) ∧ Below w.heap.size w w' := by
  have hlp := h.lp
  have hls := h.ls
  go_enter Try.func59, Try.ntmps59
  go_wp2_with fail
  refine (Out_any h).mono ?_
  rintro e w1 ⟨rfl, hb1⟩
  have h1 := h.below hb1
  cases hd : allDone ss
  · have HD := hide hd; clear hd
    have c0 := h1.c0
    have c1 := h1.c1
    go_wp2_with fail
    refine (IndexWaits_any (some ⟨pb, 0, none⟩) ps.length ps _ (by omega) h1.sp).mono ?_
    rintro e w2 ⟨rfl, hb2⟩
    have h2 := h1.below hb2
    have hb3 := hb1.trans (hb2.mono hb1.size)
    have c2 := h2.c0
    have c3 := h2.c1
    clear c0 c1 hb1 hb2 h h1
    by_cases hp : 0 ≤ firstW ps
    · have hr : triple (nextT ps ss) = .tuple #[.bool false, .int .i64 (firstW ps), .bool true] := by unfold nextT; rw [HD.out]; simp [hp, triple]
      have Hr := hide hr
      have e1 : decide (0 ≤ firstW ps) = true := by simpa using hp
      clear hr hp h2
      go_wp2
      go_ret3
      exact ⟨by rw [Hr.out]; rfl, hb3⟩
    · have hr : triple (nextT ps ss) = if firstW ss < 0 ∨ allDone ps = false then .tuple #[.bool false, .int .i64 0, .bool false] else .tuple #[.bool true, .int .i64 (firstW ss), .bool true] := by
        unfold nextT; rw [HD.out, if_neg (by simp), if_neg hp]; split <;> rfl
      have Hr := hide hr
      have e1 : decide (0 ≤ firstW ps) = false := by simpa using hp
      clear hr hp
      go_wp2_with fail
      refine (IndexWaits_any (some ⟨sb, 0, none⟩) ss.length ss _ (by omega) h2.ss).mono ?_
      rintro e w4 ⟨rfl, hb4⟩
      have h4 := h2.below hb4
      have hb5 := hb3.trans (hb4.mono hb3.size)
      clear hb4 hb3 h2
      by_cases hn : firstW ss < 0
      · have e2 : decide (firstW ss < 0) = true := by simpa using hn
        have HN := hide hn; clear hn
        go_wp2
        go_ret3
        exact ⟨by rw [Hr.out, if_pos (.inl HN.out)]; rfl, hb5⟩
      · have e2 : decide (firstW ss < 0) = false := by simpa using hn
        have HN := hide hn; clear hn
        go_wp2_with fail
        refine (Mapped_any h4).mono ?_
        rintro e w5 ⟨rfl, hb6⟩
        have hb7 := hb5.trans (hb6.mono hb5.size)
        cases hm : allDone ps
        · have HM := hide hm; clear hm
          go_wp2
          go_ret3
          exact ⟨by rw [Hr.out, if_pos (.inr HM.out)]; rfl, hb7⟩
        · have HM := hide hm; clear hm
          go_wp2
          go_ret3
          exact ⟨by rw [Hr.out, if_neg (by rw [HM.out]; intro h; rcases h with h | h; (have := HN.out; omega); cases h)]; rfl, hb7⟩
  · have hr : triple (nextT ps ss) = .tuple #[.bool false, .int .i64 0, .bool false] := by unfold nextT; rw [if_pos hd]; rfl
    have Hr := hide hr
    clear hr hd
    go_wp2
    go_ret3
    exact ⟨by rw [Hr.out]; rfl, hb1⟩

theorem infoOne : (Try.prog.info? 118).map (fun i => (i.zero, i.size, i.bytes)) = some (some (.agg #[.int .i64 0, .int .i64 0]), 2, 16) := by kernel_rfl
theorem NewTasks_bad (p s : Int) (w : World) (h : ¬ (0 ≤ p ∧ p ≤ 60 ∧ 1 ≤ s ∧ s ≤ 4)) :
    Calls Try.prog 38 #[.int .i64 p, .int .i64 s] w fun e w' => e = .returned (.tuple #[.pointer none, errV 1]) ∧ w = w' := by
  rw [errV_pos (by decide)]
  go_enter Try.func38, Try.ntmps38
  go_wp2
  all_goals first
  | (exfalso; omega)
  | (go_ret2; exact ⟨rfl, rfl⟩)
theorem newRT {w : World} {base tb pb sb p s : Nat} (ht : w.heap[tb]? = some (.cells #[.slice (some ⟨pb, 0, none⟩) p p, .slice (some ⟨sb, 0, none⟩) s s] 109))
    (hp : w.heap[pb]? = some (.cells (madeCells #[.int .i64 0, .int .i64 0] (p * 2)) 118)) (hs : w.heap[sb]? = some (.cells (madeCells #[.int .i64 0, .int .i64 0] (s * 2)) 118))
    (bt : base ≤ tb) (bp : base ≤ pb) (bs : base ≤ sb) (d1 : tb ≠ pb) (d2 : tb ≠ sb) (d3 : pb ≠ sb) (lp : p ≤ 60) (ls : s ≤ 4) (l1 : 1 ≤ s) : RT w base tb pb sb (List.replicate p (0, 0)) (List.replicate s (0, 0)) := by
  have own : ∀ (g n : Nat), w.heap[g]? = some (.cells (madeCells #[.int .i64 0, .int .i64 0] (n * 2)) 118) → base ≤ g → n ≤ 1000 → Own 2 encInt2 118 w base (.slice (some ⟨g, 0, none⟩) (List.replicate n ((0 : Int), (0 : Int))).length (List.replicate n ((0 : Int), (0 : Int))).length) (List.replicate n (0, 0)) :=
    fun g n h hb hn => Own.lit encInt2_len h hb (madeCells_list encInt2_len (.agg #[.int .i64 0, .int .i64 0]) (0, 0) rfl n rfl) (by simp; unfold maxLen; omega)
  refine ⟨?_, ?_, own pb p hp bp (by omega), own sb s hs bs (by omega), bt, d1, d2, d3, by simpa using lp, by simpa using ls, by simpa using l1⟩
  · simp [World.cell?, ht]
  · simp [World.cell?, ht]
set_option maxHeartbeats 1000000 in
theorem NewTasks_ok (p s : Nat) (w : World) (hp : p ≤ 60) (hs : s ≤ 4) (hs1 : 1 ≤ s) :
    Calls Try.prog 38 #[.int .i64 p, .int .i64 s] w fun e w' => ∃ tb pb sb, e = .returned (.tuple #[.pointer (some ⟨tb, 0, none⟩), .nilIface]) ∧ Below w.heap.size w w' ∧ tb < w'.heap.size ∧ pb < w'.heap.size ∧ sb < w'.heap.size ∧ w.heap.size ≤ pb ∧ w.heap.size ≤ sb ∧
      RT w' w.heap.size tb pb sb (List.replicate p (0, 0)) (List.replicate s (0, 0)) := by
  obtain ⟨i0, hi, hz0, hz1, hz2⟩ := info_parts infoOne
  have hmp : ∀ w : World, (Instr.makeSlice 107 (.int .i64 p) (.int .i64 p)).run Try.prog w = .ok (.slice (some ⟨w.heap.size, 0, none⟩) p p) (w.alloc (.cells (madeCells #[.int .i64 0, .int .i64 0] (p * 2)) 118)) := by
    intro w
    have := run_makeSlice (P := Try.prog) w 107 118 i0 (.agg #[.int .i64 0, .int .i64 0]) Try.underlying107 hi hz0 .i64 .i64 p p (by omega) (by omega) (by rw [hz1]; omega) (by rw [hz2]; omega) (by omega)
    rw [hz1] at this; simpa [Value.cells] using this
  have hms : ∀ w : World, (Instr.makeSlice 107 (.int .i64 s) (.int .i64 s)).run Try.prog w = .ok (.slice (some ⟨w.heap.size, 0, none⟩) s s) (w.alloc (.cells (madeCells #[.int .i64 0, .int .i64 0] (s * 2)) 118)) := by
    intro w
    have := run_makeSlice (P := Try.prog) w 107 118 i0 (.agg #[.int .i64 0, .int .i64 0]) Try.underlying107 hi hz0 .i64 .i64 s s (by omega) (by omega) (by rw [hz1]; omega) (by rw [hz2]; omega) (by omega)
    rw [hz1] at this; simpa [Value.cells] using this
  clear hi hz0 hz1 hz2
  have e1 : decide (60 < (p : Int)) = false := by simp; omega
  have e2 : decide ((s : Int) < 1) = false := by simp; omega
  have e3 : decide (4 < (s : Int)) = false := by simp; omega
  go_enter Try.func38, Try.ntmps38
  go_wp2
  go_region
  all_goals (try go_wp2)
  all_goals go_ret2
  · refine ⟨w.heap.size + 1 + 1, _, _, rfl, ?_, ?_, ?_, ?_, ?_, ?_, newRT (heap_at (by simp)) (heap_old _ (heap_old _ (heap_new _ _))) (heap_old _ (heap_at (by simp))) (by omega) (by omega) (by omega) (by omega) (by omega) (by omega) hp hs hs1⟩
    · repeat (first | exact Below.refl _ _ | refine Below.drew ?_ | refine below_drewN ?_ _ | refine Below.alloc ?_ ?_ _)
      all_goals (simp <;> omega)
    all_goals (simp <;> omega)
  · refine ⟨w.heap.size + 1 + 1, _, _, rfl, ?_, ?_, ?_, ?_, ?_, ?_, newRT (heap_at (by simp)) (heap_old _ (heap_at (by simp))) (heap_old _ (heap_old _ (heap_new _ _))) (by omega) (by omega) (by omega) (by omega) (by omega) (by omega) hp hs hs1⟩
    · repeat (first | exact Below.refl _ _ | refine Below.drew ?_ | refine below_drewN ?_ _ | refine Below.alloc ?_ ?_ _)
      all_goals (simp <;> omega)
    all_goals (simp <;> omega)
end Go.Proofs.Ytllibbdgnjcchaa
