/- Package bench: Count. -/
import Derived.Test.YtidhjpjeehoglaaBench4
namespace Go.Proofs.Ytidhjpjeehoglaa
open Go.RowKit

theorem Own.setInt {e : TypeId} {w : World} {base g n cap k : Nat} {l : List Int} (h : Own 1 encInt e w base (.slice (some ⟨g, 0, none⟩) n cap) l) (hk : k < l.length) (v : Int) : Own 1 encInt e (w.setCell ⟨g, k, none⟩ (.int .i64 v)) base (.slice (some ⟨g, 0, none⟩) n cap) (l.set k v) := by
  have := h.set' (k := k) (x := l[k]) (j := 0) (y := v) (u := .int .i64 v) encInt_len (List.getElem?_eq_getElem hk) (by decide) rfl
  simpa using this
theorem Own.intAt {e : TypeId} {w : World} {base g n cap k : Nat} {l : List Int} (h : Own 1 encInt e w base (.slice (some ⟨g, 0, none⟩) n cap) l) (hk : k < l.length) : w.cell? ⟨g, k, none⟩ = some (.int .i64 (l.getD k 0)) := by
  have := h.cellAt (i := k) (j := 0) (x := l[k]) encInt_len (List.getElem?_eq_getElem hk) rfl
  rw [List.getD_eq_getElem?_getD, List.getElem?_eq_getElem hk, Option.getD_some]
  simpa using this
theorem flat_le {L : List (List SlotV)} (h : ∀ row ∈ L, row.length ≤ 3) : L.flatten.length ≤ 3 * L.length := by
  induction L with
  | nil => simp
  | cons a L ih =>
    have h1 := h a List.mem_cons_self
    have h2 := ih (fun r hr => h r (List.mem_cons_of_mem _ hr))
    rw [List.flatten_cons, List.length_append, List.length_cons]; omega
theorem BT.rowsLe {w : World} {base bb lb cap n : Nat} {rs : List Nat} {T : List (List SlotV)} (h : BT w base bb lb cap n rs T) : ∀ row ∈ T, row.length ≤ 3 := by
  intro row hr
  obtain ⟨i, hi⟩ := List.getElem?_of_mem hr
  have hl := (List.getElem?_eq_some_iff.1 hi).1
  obtain ⟨r, row', _, hT, hn, _, _⟩ := h.row (i := i) (by rw [← h.lt]; exact hl)
  rw [hi] at hT
  obtain rfl := Option.some.inj hT
  have := h.ln; omega
theorem upToT_le {T : List (List SlotV)} (h : ∀ row ∈ T, row.length ≤ 3) (h4 : T.length ≤ 4) (k m : Nat) : (upToT T k m).length ≤ 100 := by
  unfold upToT
  have h1 := flat_le (L := T.take k) (fun r hr => h r (List.mem_of_mem_take hr))
  have h2 : (((T[k]?).getD []).take m).length ≤ 3 := by
    rw [List.length_take]
    cases hT : T[k]? with
    | none => simp
    | some row => have := h row (List.mem_of_getElem? hT); simp; omega
  rw [List.length_append]
  rw [List.length_take] at h1
  omega
def wh5 (j : Int) : Int := j.tmod 5
theorem which_any (j : Int) (w : World) : Calls Try.prog 16 #[.int .i64 j] w fun e w' => e = .returned (.int .i64 (wh5 j)) ∧ Below w.heap.size w w' := by
  go_enter Try.func16, Try.ntmps16
  go_wp2
  go_ret
  exact ⟨rfl, Below.refl _ _⟩
set_option maxHeartbeats 4000000 in
theorem Count_any (m : Nat) (hm : m ≤ 1000) {w : World} {base bb lb cap n : Nat} {rs : List Nat} {T : List (List SlotV)} (h : BT w base bb lb cap n rs T) :
    Calls Try.prog 15 #[.pointer (some ⟨bb, 0, none⟩), .int .i64 m, .func (.func 16) #[] #[]] w fun e w' => ∃ ob, e = .returned (.slice (some ⟨ob, 0, none⟩) m m) ∧ Below w.heap.size w w' ∧ Own 1 encInt 3 w' w.heap.size (.slice (some ⟨ob, 0, none⟩) m m) (countT wh5 m T) := by
  obtain ⟨i0, hi, hz0, hz1, hz2⟩ := info_parts infoInt
  have hlr := h.lr
  have hln := h.ln
  have Hlt := hide h.lt
  have Hun := hide (fun k m => upToT_le h.rowsLe (by rw [h.lt]; exact hlr) k m)
  have HB := hide h; clear h
  have hmp : ∀ w : World, (Instr.makeSlice 47 (.int .i64 m) (.int .i64 m)).run Try.prog w = .ok (.slice (some ⟨w.heap.size, 0, none⟩) m m) (w.alloc (.cells (madeCells #[.int .i64 0] m) 3)) := by
    intro w
    have := run_makeSlice (P := Try.prog) w 47 3 i0 (.int .i64 0) Try.underlying47 hi hz0 .i64 .i64 m m (by omega) (by omega) (by rw [hz1]; omega) (by rw [hz2]; omega) (by omega)
    rw [hz1] at this; simpa [Value.cells] using this
  have ow0 : Own 1 encInt 3 (w.alloc (.cells (madeCells #[.int .i64 0] m) 3)) w.heap.size (.slice (some ⟨w.heap.size, 0, none⟩) m m) (cntUp wh5 m T 0 0) := by
    rw [cntUp_zero]
    have := Own.lit (l := List.replicate m (0 : Int)) (enc := encInt) (sz := 1) (e := 3) encInt_len (heap_new w (.cells (madeCells #[.int .i64 0] m) 3)) (Nat.le_refl _) (by have := madeCells_list encInt_len (.int .i64 0) (0 : Int) rfl m rfl; simpa [Value.cells] using this) (by simp; unfold maxLen; omega)
    simpa using this
  clear hi hz0 hz1 hz2
  have c0 := (HB.out.below (ba w (.cells (madeCells #[.int .i64 0] m) 3))).c0
  have OW0 := hide ow0
  clear ow0
  go_enter Try.func15, Try.ntmps15
  go_wp2
  go_loopw [21] (fun i wr => ∃ k : Nat, k ≤ rs.length ∧ i = .int .i64 k ∧ Below w.heap.size w wr ∧ Own 1 encInt 3 wr w.heap.size (.slice (some ⟨w.heap.size, 0, none⟩) m m) (cntUp wh5 m T k 0)) (fun i _ => rs.length - (intOf i).toNat)
  case atStart => exact ⟨0, by omega, rfl, ba w _, OW0.out⟩
  case round =>
    obtain ⟨k, hk, rfl, hnx, how⟩ := hrel
    clear c0
    by_cases hlt : k < rs.length
    · obtain ⟨r, row, hr, hT, hrl, c1, hown⟩ := (HB.out.below hnx).row hlt
      have HT := hide hT
      have HR := hide hr
      have Hrl := hide hrl
      have HN := hide hnx
      have HOW := hide how
      clear hr hT hrl hown hnx how
      obtain ⟨wo, hwo⟩ : ∃ wo : World, wo = wr := ⟨wr, rfl⟩
      subst hwo
      go_wp2
      go_loopw [27] (fun i wr => ∃ j : Nat, j ≤ n ∧ i = .int .i64 j ∧ Below w.heap.size w wr ∧ Own 1 encInt 3 wr w.heap.size (.slice (some ⟨w.heap.size, 0, none⟩) m m) (cntUp wh5 m T k j)) (fun i _ => n - (intOf i).toNat)
      case atStart => exact ⟨0, by omega, rfl, HN.out, HOW.out⟩
      case round =>
        obtain ⟨j, hj, rfl, hnx, how⟩ := hrel
        clear c1
        by_cases hlj : j < n
        · obtain ⟨s, hs⟩ : ∃ s, row[j]? = some s := ⟨row[j]'(by rw [Hrl.out]; exact hlj), by simp [Hrl.out, hlj]⟩
          obtain ⟨d0, d1, d2, d3, _, _⟩ := (HB.out.below hnx).elem HR.out HT.out hs
          have hstep := cntUp_slot (wh := wh5) (many := m) HT.out hs
          have hcl := cntUp_len wh5 m T k j
          have hce := cntUp_le wh5 m T k j
          have hun := Hun.out k j
          have HS := hide hstep
          have hab := hnx.alloc hnx.size (.cells #[.bool s.1, .int .i64 s.2.1, .bool s.2.2.1, .int .i64 s.2.2.2] 77)
          have hoa := how.alloc (.cells #[.bool s.1, .int .i64 s.2.1, .bool s.2.2.1, .int .i64 s.2.2.2] 77)
          have HOA := hide hoa
          have HCL := hide hcl
          have hce : ∀ q : Nat, q < m → 0 ≤ (cntUp wh5 m T k j).getD q 0 ∧ (cntUp wh5 m T k j).getD q 0 ≤ 100 := by
            intro q hq
            have hm' : (cntUp wh5 m T k j).getD q 0 ∈ cntUp wh5 m T k j := by
              rw [List.getD_eq_getElem?_getD, List.getElem?_eq_getElem (by omega), Option.getD_some]; exact List.getElem_mem _
            have := hce _ hm'
            omega
          have HCE := hide hce
          clear hstep hce hcl hun how hoa
          generalize cntUp wh5 m T k j = acc at *
          cases h0 : s.1
          · have e1 : countIn wh5 acc s = acc := by unfold countIn; rw [h0]; rfl
            have E1 := hide e1
            rw [h0] at d0
            rw [h0] at hab
            have HOA' := HOA.out
            rw [h0] at HOA'
            have HOA' := hide HOA'
            clear e1 h0 HOA
            go_wp2
            go_roundw
            case rel => exact ⟨j+1, by omega, by go_num, hab, by rw [HS.out, E1.out]; exact HOA'.out⟩
            case measure => simp [intOf]; omega
          · have e1 : countIn wh5 acc s = bump acc (wh5 s.2.1) := by unfold countIn; rw [h0]; rfl
            have E1 := hide e1
            rw [h0] at d0
            rw [h0] at hab
            have HOA' := HOA.out
            rw [h0] at HOA'
            have HOA' := hide HOA'
            clear e1 h0 HOA
            go_wp2_with fail
            refine (which_any s.2.1 _).mono ?_
            rintro e w1 ⟨rfl, b1⟩
            have hab1 := hab.trans (b1.mono hab.size)
            have how1 := HOA'.out.later b1
            clear HOA' b1 hab d0 d1 d2 d3
            generalize wh5 s.2.1 = q at *
            by_cases hq : 0 ≤ q ∧ q < m
            · obtain ⟨x, rfl⟩ : ∃ x : Nat, q = x := ⟨q.toNat, by omega⟩
              have hxm : x < m := by omega
              have hxl : x < acc.length := by rw [HCL.out]; exact hxm
              obtain ⟨g1, g2⟩ := HCE.out x hxm
              have q0 := how1.intAt hxl
              have z0 := how1.frozenAt x
              have hset := how1.setInt hxl (acc.getD x 0 + 1)
              have e2 : bump acc (x : Int) = acc.set x (acc.getD x 0 + 1) := by unfold bump; rw [if_pos ⟨by omega, by omega⟩, Int.toNat_natCast]
              have E2 := hide e2
              have HSET := hide hset
              have hab2 := hab1.setCell (p := ⟨w.heap.size, x, none⟩) (Nat.le_refl _) (.int .i64 (acc.getD x 0 + 1))
              have HAB := hide hab2
              clear e2 hset hab2 how1 hq hxl
              generalize acc.getD x 0 = av at *
              have e3 : decide (x < m) = true := by simpa using hxm
              go_wp2
              go_roundw
              case rel => exact ⟨j+1, by omega, by go_num, HAB.out, by rw [HS.out, E1.out, E2.out]; exact HSET.out⟩
              case measure => simp [intOf]; omega
            · have e2 : bump acc q = acc := by unfold bump; rw [if_neg (by rw [HCL.out]; exact hq)]
              have E2 := hide e2
              clear e2
              by_cases hq0 : 0 ≤ q
              · have hqm : ¬ q < m := fun h => hq ⟨hq0, h⟩
                have e3 : decide (0 ≤ q) = true := by simpa using hq0
                have e4 : decide (q < (m : Int)) = false := by simpa using hqm
                clear hq
                go_wp2
                go_roundw
                case rel => exact ⟨j+1, by omega, by go_num, hab1, by rw [HS.out, E1.out, E2.out]; exact how1⟩
                case measure => simp [intOf]; omega
              · have e3 : decide (0 ≤ q) = false := by simpa using hq0
                clear hq
                go_wp2
                go_roundw
                case rel => exact ⟨j+1, by omega, by go_num, hab1, by rw [HS.out, E1.out, E2.out]; exact how1⟩
                case measure => simp [intOf]; omega
        · obtain rfl : j = n := by omega
          have hstep := cntUp_row (wh := wh5) (many := m) HT.out Hrl.out
          have HS := hide hstep
          clear hstep
          go_wp2
          go_roundw
          case rel => exact ⟨k+1, by omega, by go_num, hnx, by rw [← HS.out]; exact how⟩
          case measure => simp [intOf]; omega
    · obtain rfl : k = rs.length := by omega
      go_wp2
      go_ret
      exact ⟨_, rfl, hnx, by rw [← cntUp_end wh5 m T Hlt.out.symm]; exact how⟩
end Go.Proofs.Ytidhjpjeehoglaa
