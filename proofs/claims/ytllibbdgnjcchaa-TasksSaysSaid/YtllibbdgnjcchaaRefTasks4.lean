/- The reference's tasks: Lost, NewTasks. -/
import Derived.Test.YtllibbdgnjcchaaRefTasks3
namespace Go.Proofs.Ytllibbdgnjcchaa
open Go.RowKit

/-- who has a part that is done -/
def WR (ps : List (Int × Int)) (W : List Int) : Prop := ∀ (i : Nat) b, ps[i]? = some (2, b) → W[i]? = some b

theorem map_fst_set (ps : List (Int × Int)) (k : Nat) (x : Int × Int) : (ps.set k x).map (·.1) = (ps.map (·.1)).set k x.1 := by
  rw [List.map_set]

set_option maxRecDepth 100000 in
set_option maxHeartbeats 1000000 in
theorem Lost_any (wk : Int) {w : World} {base mb pb sb hb : Nat} {ps : List (Int × Int)} {Q W : List Int} (h : RM w base mb pb sb hb (ps.map (·.1)) Q W) (hw : WR ps W) (htb : mb < w.heap.size) (hpb : pb < w.heap.size) (hsb : sb < w.heap.size) (hhb : hb < w.heap.size) :
    Calls Try.prog 45 #[.pointer (some ⟨mb, 0, none⟩), .int .i64 wk] w fun e w' => ∃ v, e = .returned v ∧ Own 1 encInt 3 w' w.heap.size v (loseO ps wk ps.length) ∧ KeptBut (fun q => q = pb) w w' ∧ RM w' base mb pb sb hb ((loseP ps wk ps.length).map (·.1)) Q W := by
  obtain ⟨i0, hi, hz0, hz1, hz2⟩ := info_parts infoInt
  have hlp := h.lp
  rw [List.length_map] at hlp
  have hlw := h.lw
  rw [List.length_map] at hlw
  have H := hide h; clear h
  have HWR := hide hw; clear hw
  go_enter Try.func45, Try.ntmps45
  go_wp2
  go_loopw [5, 6] (fun v i wr => ∃ k : Nat, k ≤ ps.length ∧ i = .int .i64 k ∧ Own 1 encInt 3 wr w.heap.size v (loseO ps wk k) ∧ KeptBut (fun q => q = pb) w wr ∧ RM wr base mb pb sb hb ((loseP ps wk k).map (·.1)) Q W) (fun _ i _ => ps.length - (intOf i).toNat)
  case atStart => exact ⟨0, by omega, rfl, Own.nil, KeptBut.refl _ _, H.out⟩
  case round =>
    obtain ⟨k, hk, rfl, hown, hkb, hrt⟩ := hrel
    have hsz := hkb.size
    have c0 := hrt.c0
    have c2 := hrt.c2
    have hll := loseP_len ps wk k
    rw [List.length_map, hll] at c0
    rw [hlw] at c2
    by_cases hlt : k < ps.length
    · obtain ⟨a, b, hab⟩ : ∃ a b, ps[k]? = some (a, b) := ⟨ps[k].1, ps[k].2, by simp [hlt]⟩
      have hab' : ((loseP ps wk k).map (·.1))[k]? = some a := by rw [List.getElem?_map, loseP_get _ _ _ _ (Nat.le_refl _), hab]; rfl
      have hol := loseO_len ps wk k
      obtain ⟨d0, dz, _, _⟩ := hrt.elem (fold := false) hab'
      have d0' : wr.cell? ⟨pb, k, none⟩ = some (.int .i64 a) := d0
      have z0 : wr.frozen? ⟨pb, k, none⟩ = false := dz
      obtain ⟨u, hu⟩ : ∃ u, W[k]? = some u := ⟨W[k], by simp [hlt, hlw]⟩
      have dh : wr.cell? ⟨hb, k, none⟩ = some (.int .i64 u) := by
        have := hrt.ow.cellAt (j := 0) encInt_len hu rfl; simpa using this
      have hub : Hid (a = 2 → u = b) := by
        intro e; subst e; have := HWR.out k b hab; rw [hu] at this; exact Option.some.inj this
      have hD1 := hrt.d1
      have hD5 := hrt.d5
      have HR := hide hrt
      have HL := hide hll; have HAB := hide hab; have HAB' := hide hab'
      clear hrt d0 dz hll hab hab' hu
      by_cases ha : a = 2
      · obtain rfl := hub.out ha
        subst ha
        clear hub
        by_cases hb : u = wk
        · subst hb
          have hP : Hid (loseP ps u (k + 1) = (loseP ps u k).set k (0, 0)) := by show _ = _; rw [loseP, if_pos HAB.out]
          have hO : Hid (loseO ps u (k + 1) = loseO ps u k ++ [(k : Int)]) := by show _ = _; rw [loseO, if_pos HAB.out]
          generalize loseP ps u k = pk at *
          generalize loseO ps u k = ok at *
          have rt1 := HR.out.set (fold := false) (v := 0) HAB'.out
          have rt2 : RM (wr.setCell ⟨pb, k, none⟩ (.int .i64 0)) base mb pb sb hb ((pk.set k (0, 0)).map (·.1)) Q W := by rw [map_fst_set]; exact rt1
          have hb := fun q hq => hown.lt q hq
          have ow1 : Own 1 encInt 3 (wr.setCell ⟨pb, k, none⟩ (.int .i64 0)) w.heap.size _ ok :=
            hown.setOther (a := ⟨pb, k, none⟩) (fun e => by have := (hb _ e).1; simp at this; omega) (.int .i64 0)
          have kb1 : KeptBut (fun q => q = pb) w ((wr.setCell ⟨pb, k, none⟩ (.int .i64 0)).alloc (.cells #[.int .i64 k] 3)) :=
            (hkb.setCell (p := ⟨pb, k, none⟩) rfl _).alloc _
          have KB := hide kb1; have RT2 := hide rt2
          clear rt1 rt2 kb1
          go_wp2_with (at_builtin; refine wpList_append_one encInt_len _ _ 23 i0 _ rfl rfl Try.underlying23 hi hz0 hz1 hz2 rfl (by decide) (by decide) (ow1.alloc _) (Below.refl _ _) ?c1 ?c2 rfl (k : Int) ⟨wr.heap.size, 0, none⟩ 1 rfl (news_at ?c3 rfl) ?c4 ?_)
          case c1 => simp; omega
          case c2 => omega
          case c3 => simp
          case c4 => simp [encInt, Value.oneCell']
          intro v' w1 hown1 _ hgr _
          go_wp2
          go_roundw
          case rel =>
            have ltv := fun q hq => (ow1.lt q hq).1
            refine ⟨k+1, by omega, by go_num, by rw [hO.out]; exact hown1, KB.out.grown hgr ltv, ?_⟩
            rw [hP.out]
            refine ((RT2.out).kept (S := fun _ => False) ((KeptBut.refl _ _).alloc _) id id id id).kept (KeptBut.of_grown (S := fun q => w.heap.size ≤ q) hgr ltv) (by omega) (by omega) (by omega) (by omega)
          case measure => simp [intOf]; omega
        · have hy : ¬ ((2 : Int), u) = (2, wk) := by intro e; cases e; exact hb rfl
          have hP : Hid (loseP ps wk (k + 1) = loseP ps wk k) := by
            show _ = _; rw [loseP, if_neg]; rw [HAB.out]; intro e; exact hy (Option.some.inj e)
          have hO : Hid (loseO ps wk (k + 1) = loseO ps wk k) := by
            show _ = _; rw [loseO, if_neg]; rw [HAB.out]; intro e; exact hy (Option.some.inj e)
          generalize loseP ps wk k = pk at *
          generalize loseO ps wk k = ok at *
          have e1 : (u == wk) = false := by simpa using hb
          clear hy hb
          go_wp2
          go_roundw
          case rel => exact ⟨k+1, by omega, by go_num, by rw [hO.out]; exact hown, hkb, by rw [hP.out]; exact HR.out⟩
          case measure => simp [intOf]; omega
      · have hP : Hid (loseP ps wk (k + 1) = loseP ps wk k) := by
          show _ = _; rw [loseP, if_neg]; rw [HAB.out]; intro e; cases e; exact ha rfl
        have hO : Hid (loseO ps wk (k + 1) = loseO ps wk k) := by
          show _ = _; rw [loseO, if_neg]; rw [HAB.out]; intro e; cases e; exact ha rfl
        generalize loseP ps wk k = pk at *
        generalize loseO ps wk k = ok at *
        have e1 : (a == 2) = false := by simpa using ha
        clear ha hub
        go_wp2
        go_roundw
        case rel => exact ⟨k+1, by omega, by go_num, by rw [hO.out]; exact hown, hkb, by rw [hP.out]; exact HR.out⟩
        case measure => simp [intOf]; omega
    · go_wp2
      go_ret
      obtain rfl : k = ps.length := by omega
      exact ⟨_, rfl, hown, hkb, hrt⟩

theorem newRM {w : World} {base mb pb sb hb p s : Nat} (ht : w.heap[mb]? = some (.cells #[.slice (some ⟨pb, 0, none⟩) p p, .slice (some ⟨sb, 0, none⟩) s s, .slice (some ⟨hb, 0, none⟩) p p] 111))
    (hp : w.heap[pb]? = some (.cells (madeCells #[.int .i64 0] p) 3)) (hs : w.heap[sb]? = some (.cells (madeCells #[.int .i64 0] s) 3)) (hh : w.heap[hb]? = some (.cells (madeCells #[.int .i64 0] p) 3))
    (bt : base ≤ mb) (bp : base ≤ pb) (bs : base ≤ sb) (bh : base ≤ hb) (d1 : mb ≠ pb) (d2 : mb ≠ sb) (d3 : mb ≠ hb) (d4 : pb ≠ sb) (d5 : pb ≠ hb) (d6 : sb ≠ hb) (lp : p ≤ 60) (ls : s ≤ 4) :
    RM w base mb pb sb hb (List.replicate p 0) (List.replicate s 0) (List.replicate p 0) := by
  have own : ∀ (g n : Nat), w.heap[g]? = some (.cells (madeCells #[.int .i64 0] n) 3) → base ≤ g → n ≤ 1000 → Own 1 encInt 3 w base (.slice (some ⟨g, 0, none⟩) (List.replicate n (0 : Int)).length (List.replicate n (0 : Int)).length) (List.replicate n 0) :=
    fun g n h hb hn => Own.lit encInt_len h hb (by have := madeCells_list encInt_len (.int .i64 0) 0 rfl n rfl; rwa [Nat.mul_one] at this) (by simp; unfold maxLen; omega)
  refine ⟨?_, ?_, ?_, own pb p hp bp (by omega), own sb s hs bs (by omega), own hb p hh bh (by omega), bt, d1, d2, d3, d4, d5, d6, by simpa using lp, by simpa using ls, by simp⟩
  · simp [World.cell?, ht]
  · simp [World.cell?, ht]
  · simp [World.cell?, ht]
theorem RefNewTasks_bad (p s : Int) (w : World) (h : ¬ (0 ≤ p ∧ p ≤ 60 ∧ 1 ≤ s ∧ s ≤ 4)) :
    Calls Try.prog 39 #[.int .i64 p, .int .i64 s] w fun e w' => e = .returned (.tuple #[.pointer none, .int .i64 1]) ∧ w = w' := by
  go_enter Try.func39, Try.ntmps39
  by_cases h1 : p < 0
  · go_wp2
    go_ret2
    exact ⟨rfl, rfl⟩
  · by_cases h2 : 60 < p
    · go_wp2
      go_ret2
      exact ⟨rfl, rfl⟩
    · by_cases h3 : s < 1
      · go_wp2
        go_ret2
        exact ⟨rfl, rfl⟩
      · have h4 : 4 < s := by omega
        go_wp2
        go_ret2
        exact ⟨rfl, rfl⟩
theorem hat {w : World} {o : Obj} {n : Nat} {x : Obj} (h : n = w.heap.size) (hx : o = x) : (w.alloc o).heap[n]? = some x := by subst h hx; exact heap_new w o
set_option maxHeartbeats 2000000 in
theorem RefNewTasks_ok (p s : Nat) (w : World) (hp : p ≤ 60) (hs : s ≤ 4) (hs1 : 1 ≤ s) :
    Calls Try.prog 39 #[.int .i64 p, .int .i64 s] w fun e w' => ∃ mb pb sb hb, e = .returned (.tuple #[.pointer (some ⟨mb, 0, none⟩), .int .i64 0]) ∧ Below w.heap.size w w' ∧ mb < w'.heap.size ∧ pb < w'.heap.size ∧ sb < w'.heap.size ∧ hb < w'.heap.size ∧ w.heap.size ≤ pb ∧ w.heap.size ≤ sb ∧ w.heap.size ≤ hb ∧
      RM w' w.heap.size mb pb sb hb (List.replicate p 0) (List.replicate s 0) (List.replicate p 0) := by
  obtain ⟨i0, hi, hz0, hz1, hz2⟩ := info_parts infoInt
  have hmp : ∀ w : World, (Instr.makeSlice 23 (.int .i64 p) (.int .i64 p)).run Try.prog w = .ok (.slice (some ⟨w.heap.size, 0, none⟩) p p) (w.alloc (.cells (madeCells #[.int .i64 0] p) 3)) := by
    intro w
    have := run_makeSlice (P := Try.prog) w 23 3 i0 (.int .i64 0) Try.underlying23 hi hz0 .i64 .i64 p p (by omega) (by omega) (by rw [hz1]; omega) (by rw [hz2]; omega) (by omega)
    rw [hz1] at this; simpa [Value.cells] using this
  have hms : ∀ w : World, (Instr.makeSlice 23 (.int .i64 s) (.int .i64 s)).run Try.prog w = .ok (.slice (some ⟨w.heap.size, 0, none⟩) s s) (w.alloc (.cells (madeCells #[.int .i64 0] s) 3)) := by
    intro w
    have := run_makeSlice (P := Try.prog) w 23 3 i0 (.int .i64 0) Try.underlying23 hi hz0 .i64 .i64 s s (by omega) (by omega) (by rw [hz1]; omega) (by rw [hz2]; omega) (by omega)
    rw [hz1] at this; simpa [Value.cells] using this
  clear hi hz0 hz1 hz2
  have e0 : decide (60 < (p : Int)) = false := by simp; omega
  have e2 : decide ((s : Int) < 1) = false := by simp; omega
  have e3 : decide (4 < (s : Int)) = false := by simp; omega
  go_enter Try.func39, Try.ntmps39
  go_wp2
  go_region
  all_goals (try go_wp2)
  all_goals go_ret2
  all_goals
    refine ⟨w.heap.size + 1 + 1 + 1, _, _, _, rfl, ?_, ?_, ?_, ?_, ?_, ?_, ?_, ?_, newRM (p := p) (s := s) (heap_at (by simp)) ?_ ?_ ?_ ?_ ?_ ?_ ?_ ?_ ?_ ?_ ?_ ?_ ?_ hp hs⟩
    · repeat (first | exact Below.refl _ _ | refine Below.drew ?_ | refine below_drewN ?_ _ | refine Below.alloc ?_ ?_ _)
      all_goals (simp <;> omega)
  all_goals (first
  | omega
  | (refine hat ?_ rfl; simp; done)
  | (refine heap_old _ (hat ?_ rfl); simp; done)
  | (refine heap_old _ (heap_old _ (hat ?_ rfl)); simp; done)
  | (refine heap_old _ (heap_old _ (heap_old _ (hat ?_ rfl))); simp; done)
  | (refine heap_old _ (heap_old _ (heap_old _ (hat rfl rfl)))) | (simp; done) | (simp; omega))
end Go.Proofs.Ytllibbdgnjcchaa
