/- Package bench: In, Put, Free, Size. -/
import Derived.Test.YtidhjpjeehoglaaBench
namespace Go.Proofs.Ytidhjpjeehoglaa
open Go.RowKit

def taskV (s : SlotV) : Value := .agg #[.int .i64 s.2.1, .bool s.2.2.1, .int .i64 s.2.2.2]
theorem BT.lt0 {w : World} {base bb lb cap n : Nat} {rs : List Nat} {T : List (List SlotV)} (h : BT w base bb lb cap n rs T) {i r : Nat} (hi : rs[i]? = some r) : r < w.heap.size ∧ base ≤ r := by
  obtain ⟨r', row, hr, _, _, _, o⟩ := h.row (i := i) (List.getElem?_eq_some_iff.1 hi).1
  rw [hi] at hr
  obtain rfl := Option.some.inj hr
  have := o.lt r rfl
  omega
/-- the cells of a slot -/
theorem BT.elem {w : World} {base bb lb cap n : Nat} {rs : List Nat} {T : List (List SlotV)} (h : BT w base bb lb cap n rs T) {i j r : Nat} {row : List SlotV} {s : SlotV} (hi : rs[i]? = some r) (hT : T[i]? = some row) (hj : row[j]? = some s) :
    w.cell? ⟨r, j * 4, none⟩ = some (.bool s.1) ∧ w.cell? ⟨r, j * 4 + 1, none⟩ = some (.int .i64 s.2.1) ∧ w.cell? ⟨r, j * 4 + 2, none⟩ = some (.bool s.2.2.1) ∧ w.cell? ⟨r, j * 4 + 3, none⟩ = some (.int .i64 s.2.2.2) ∧ (∀ k, w.frozen? ⟨r, k, none⟩ = false) ∧ j < n := by
  have o := h.ow i r row hi hT
  refine ⟨o.cellAt (j := 0) encS_len hj rfl, o.cellAt (j := 1) encS_len hj rfl, o.cellAt (j := 2) encS_len hj rfl, o.cellAt (j := 3) encS_len hj rfl, fun k => o.frozenAt k, ?_⟩
  have := o.len
  have := (List.getElem?_eq_some_iff.1 hj).1
  omega

theorem froz_later {w w' : World} {a : Addr} (h : Below w.heap.size w w') (hb : a.block < w.heap.size) (hz : w.frozen? a = false) : w'.frozen? a = false := by
  have e : w'.heap[a.block]? = w.heap[a.block]? := h.block a.block hb
  unfold World.frozen? at hz ⊢
  rw [e]; exact hz
/-- a block that is new: its cells, bare -/
theorem new_task {w : World} {cs : Array Value} {t : TypeId} {j : Nat} {v : Value} (h : cs[j]? = some v) : (w.alloc (.cells cs t)).cell? ⟨w.heap.size, j, none⟩ = some v := by
  have := heap_new w (.cells cs t)
  simp only [World.cell?]
  rw [this]
  exact h
theorem new_froz {w : World} {cs : Array Value} {t : TypeId} {j : Nat} : (w.alloc (.cells cs t)).frozen? ⟨w.heap.size, j, none⟩ = false := by
  have := heap_new w (.cells cs t)
  unfold World.frozen?
  rw [this]
  simp
set_option maxHeartbeats 1000000 in
theorem In_no (a b : Int) {w : World} {base bb lb cap n : Nat} {rs : List Nat} {T : List (List SlotV)} (h : BT w base bb lb cap n rs T) (hi : ¬ (0 ≤ a ∧ a < rs.length ∧ 0 ≤ b ∧ b < n)) :
    Calls Try.prog 13 #[.pointer (some ⟨bb, 0, none⟩), .agg #[.int .i64 a, .int .i64 b]] w fun e w' => e = .returned (.tuple #[.agg #[.int .i64 0, .bool false, .int .i64 0], errV 5]) ∧ Below w.heap.size w w' := by
  rw [errV_pos (by decide)]
  have HB := fun w' (k : Below w.heap.size w w') => bat_no a b (h.below k) hi
  have HB := hide HB
  clear h hi
  go_enter Try.func13, Try.ntmps13
  go_wp2_with fail
  refine (HB.out _ ?_).mono ?_
  · exact ((Below.refl _ _).alloc (Nat.le_refl _) _).alloc (by simp) _
  rintro e w1 ⟨rfl, b1⟩
  have b0 : Below w.heap.size w w1 := (((Below.refl _ _).alloc (Nat.le_refl _) _).alloc (by simp) _).trans (b1.mono (by simp; omega))
  generalize hwa : (w.alloc (Obj.cells #[Value.int IntKind.i64 a, Value.int IntKind.i64 b] 38)) = wa at *
  have e1 : w.heap.size + 1 = wa.heap.size := by rw [← hwa]; simp
  rw [e1]
  have r0 := cell_later b1 (new_task (w := wa) (t := 33) (cs := #[.int .i64 0, .bool false, .int .i64 0]) (j := 0) rfl)
  have r1 := cell_later b1 (new_task (w := wa) (t := 33) (cs := #[.int .i64 0, .bool false, .int .i64 0]) (j := 1) rfl)
  have r2 := cell_later b1 (new_task (w := wa) (t := 33) (cs := #[.int .i64 0, .bool false, .int .i64 0]) (j := 2) rfl)
  have z : ∀ j, w1.frozen? ⟨wa.heap.size, j, none⟩ = false := fun j => froz_later b1 (by simp) new_froz
  have z0 := z 0
  have z1 := z 1
  have z2 := z 2
  have hge : w.heap.size ≤ wa.heap.size := by omega
  clear hwa e1 z b1
  generalize wa.heap.size = rb at *
  go_wp2
  exact bodyPost_ret (v := .tuple #[.agg #[.int .i64 0, .bool false, .int .i64 0], .iface 68 (.int .i64 5)]) (by simp [results, Try.results13, go_sem, r0, r1, r2, z0, z1, z2]) rfl ⟨rfl, ((b0.setCell hge _).setCell hge _).setCell hge _⟩

/-- what a slot says when a task is asked of it -/
def inV (s : SlotV) : Value := if s.1 then .tuple #[.agg #[.int .i64 s.2.1, .bool s.2.2.1, .int .i64 s.2.2.2], .nilIface] else .tuple #[.agg #[.int .i64 0, .bool false, .int .i64 0], errV 7]
set_option maxHeartbeats 1000000 in
theorem In_yes {i j r : Nat} {row : List SlotV} {s : SlotV} {w : World} {base bb lb cap n : Nat} {rs : List Nat} {T : List (List SlotV)} (h : BT w base bb lb cap n rs T) (hi : rs[i]? = some r) (hT : T[i]? = some row) (hj : row[j]? = some s) :
    Calls Try.prog 13 #[.pointer (some ⟨bb, 0, none⟩), .agg #[.int .i64 i, .int .i64 j]] w fun e w' => e = .returned (inV s) ∧ Below w.heap.size w w' := by
  obtain ⟨on, ta, tf, tk⟩ := s
  have hjn := (h.elem hi hT hj).2.2.2.2.2
  have HB := fun w' (k : Below w.heap.size w w') => bat_yes (h.below k) hi hjn
  have HB := hide HB
  have HE := fun w' (k : Below w.heap.size w w') => (h.below k).elem hi hT hj
  have HE := hide HE
  have hrl := (h.lt0 hi).1
  clear h hi hT hj
  cases on
  · show Calls _ _ _ _ fun e w' => e = .returned (.tuple #[.agg #[.int .i64 0, .bool false, .int .i64 0], errV 7]) ∧ _
    rw [errV_pos (by decide)]
    go_enter Try.func13, Try.ntmps13
    go_wp2_with fail
    refine (HB.out _ ?_).mono ?_
    · exact ((Below.refl _ _).alloc (Nat.le_refl _) _).alloc (by simp) _
    rintro e w1 ⟨rfl, b1⟩
    have b0 : Below w.heap.size w w1 := (((Below.refl _ _).alloc (Nat.le_refl _) _).alloc (by simp) _).trans (b1.mono (by simp; omega))
    obtain ⟨d0, d1, d2, d3, dz, _⟩ := HE.out w1 b0
    generalize hwa : (w.alloc (Obj.cells #[Value.int IntKind.i64 i, Value.int IntKind.i64 j] 38)) = wa at *
    have e1 : w.heap.size + 1 = wa.heap.size := by rw [← hwa]; simp
    rw [e1]
    have r0 := cell_later b1 (new_task (w := wa) (t := 33) (cs := #[.int .i64 0, .bool false, .int .i64 0]) (j := 0) rfl)
    have r1 := cell_later b1 (new_task (w := wa) (t := 33) (cs := #[.int .i64 0, .bool false, .int .i64 0]) (j := 1) rfl)
    have r2 := cell_later b1 (new_task (w := wa) (t := 33) (cs := #[.int .i64 0, .bool false, .int .i64 0]) (j := 2) rfl)
    have z : ∀ j, w1.frozen? ⟨wa.heap.size, j, none⟩ = false := fun j => froz_later b1 (by simp) new_froz
    have z0 := z 0
    have z1 := z 1
    have z2 := z 2
    have hge : w.heap.size ≤ wa.heap.size := by omega
    clear hwa e1 z b1 dz HE HB
    generalize wa.heap.size = rb at *
    go_wp2
    exact bodyPost_ret (v := .tuple #[.agg #[.int .i64 0, .bool false, .int .i64 0], .iface 68 (.int .i64 7)]) (by simp [results, Try.results13, go_sem, r0, r1, r2, z0, z1, z2]) rfl ⟨rfl, ((b0.setCell hge _).setCell hge _).setCell hge _⟩
  · show Calls _ _ _ _ fun e w' => e = .returned (.tuple #[.agg #[.int .i64 ta, .bool tf, .int .i64 tk], .nilIface]) ∧ _
    go_enter Try.func13, Try.ntmps13
    go_wp2_with fail
    refine (HB.out _ ?_).mono ?_
    · exact ((Below.refl _ _).alloc (Nat.le_refl _) _).alloc (by simp) _
    rintro e w1 ⟨rfl, b1⟩
    have b0 : Below w.heap.size w w1 := (((Below.refl _ _).alloc (Nat.le_refl _) _).alloc (by simp) _).trans (b1.mono (by simp; omega))
    obtain ⟨d0, d1, d2, d3, dz, _⟩ := HE.out w1 b0
    generalize hwa : (w.alloc (Obj.cells #[Value.int IntKind.i64 i, Value.int IntKind.i64 j] 38)) = wa at *
    have e1 : w.heap.size + 1 = wa.heap.size := by rw [← hwa]; simp
    rw [e1]
    have r0 := cell_later b1 (new_task (w := wa) (t := 33) (cs := #[.int .i64 0, .bool false, .int .i64 0]) (j := 0) rfl)
    have r1 := cell_later b1 (new_task (w := wa) (t := 33) (cs := #[.int .i64 0, .bool false, .int .i64 0]) (j := 1) rfl)
    have r2 := cell_later b1 (new_task (w := wa) (t := 33) (cs := #[.int .i64 0, .bool false, .int .i64 0]) (j := 2) rfl)
    have z : ∀ j, w1.frozen? ⟨wa.heap.size, j, none⟩ = false := fun j => froz_later b1 (by simp) new_froz
    have z0 := z 0
    have z1 := z 1
    have z2 := z 2
    have hge : w.heap.size ≤ wa.heap.size := by omega
    have hne : r < wa.heap.size := by omega
    clear hwa e1 z b1 dz HE HB
    generalize wa.heap.size = rb at *
    go_wp2
    exact bodyPost_ret (v := .tuple #[.agg #[.int .i64 ta, .bool tf, .int .i64 tk], .nilIface]) (by simp [results, Try.results13, go_sem, r0, r1, r2, z0, z1, z2]) rfl ⟨rfl, ((b0.setCell hge _).setCell hge _).setCell hge _⟩

/-- a slot written whole -/
def set4 (w : World) (r j : Nat) (y : SlotV) : World := (((w.setCell ⟨r, j * 4, none⟩ (.bool y.1)).setCell ⟨r, j * 4 + 1, none⟩ (.int .i64 y.2.1)).setCell ⟨r, j * 4 + 2, none⟩ (.bool y.2.2.1)).setCell ⟨r, j * 4 + 3, none⟩ (.int .i64 y.2.2.2)
theorem set4_kept (w : World) (r j : Nat) (y : SlotV) : KeptBut (fun q => q = r) w (set4 w r j y) :=
  ((((KeptBut.refl (fun q => q = r) w).setCell (p := ⟨r, j * 4, none⟩) rfl _).setCell (p := ⟨r, j * 4 + 1, none⟩) rfl _).setCell (p := ⟨r, j * 4 + 2, none⟩) rfl _).setCell (p := ⟨r, j * 4 + 3, none⟩) rfl _
theorem Own.set4 {e : TypeId} {w : World} {base g n cap j : Nat} {l : List SlotV} {s : SlotV} (h : Own 4 encS e w base (.slice (some ⟨g, 0, none⟩) n cap) l) (hj : l[j]? = some s) (y : SlotV) : Own 4 encS e (set4 w g j y) base (.slice (some ⟨g, 0, none⟩) n cap) (l.set j y) := by
  obtain ⟨s0, s1, s2, s3⟩ := s
  obtain ⟨y0, y1, y2, y3⟩ := y
  have hlt := (List.getElem?_eq_some_iff.1 hj).1
  have h0 := h.set' (j := 0) (y := (y0, s1, s2, s3)) (u := .bool y0) encS_len hj (by decide) rfl
  have h1 := h0.set' (k := j) (x := (y0, s1, s2, s3)) (j := 1) (y := (y0, y1, s2, s3)) (u := .int .i64 y1) encS_len (List.getElem?_set_self hlt) (by decide) rfl
  rw [List.set_set] at h1
  have h2 := h1.set' (k := j) (x := (y0, y1, s2, s3)) (j := 2) (y := (y0, y1, y2, s3)) (u := .bool y2) encS_len (List.getElem?_set_self hlt) (by decide) rfl
  rw [List.set_set] at h2
  have h3 := h2.set' (k := j) (x := (y0, y1, y2, s3)) (j := 3) (y := (y0, y1, y2, y3)) (u := .int .i64 y3) encS_len (List.getElem?_set_self hlt) (by decide) rfl
  rw [List.set_set] at h3
  exact h3
theorem BT.put {w : World} {base bb lb cap n : Nat} {rs : List Nat} {T : List (List SlotV)} (h : BT w base bb lb cap n rs T) {i j r : Nat} {row : List SlotV} {s : SlotV} (hi : rs[i]? = some r) (hT : T[i]? = some row) (hj : row[j]? = some s) (y : SlotV) : BT (set4 w r j y) base bb lb cap n rs (T.set i (row.set j y)) := by
  have k := set4_kept w r j y
  have hd := h.d2 i r hi
  refine ⟨k.cell h.c0 (fun e => hd.1 e.symm), k.own h.ol (fun _ e => by cases e; exact fun e => hd.2 e.symm), fun i' r' row' hr' ht' => ?_, by rw [List.length_set]; exact h.lt, h.bt, h.d1, h.d2, h.d3, h.lr, h.ln, h.l1, h.l2⟩
  by_cases e : i = i'
  · subst e
    rw [hi] at hr'
    obtain rfl := Option.some.inj hr'
    rw [List.getElem?_set_self (List.getElem?_eq_some_iff.1 hT).1] at ht'
    obtain rfl := Option.some.inj ht'
    exact (h.ow i r row hi hT).set4 hj y
  · rw [List.getElem?_set_ne e] at ht'
    exact k.own (h.ow i' r' row' hr' ht') (fun _ e' => by cases e'; intro e'; subst e'; exact e (h.d3 i i' r' hi hr'))

set_option maxHeartbeats 1000000 in
theorem Put_no (a b ta tk : Int) (tf : Bool) {w : World} {base bb lb cap n : Nat} {rs : List Nat} {T : List (List SlotV)} (h : BT w base bb lb cap n rs T) (hi : ¬ (0 ≤ a ∧ a < rs.length ∧ 0 ≤ b ∧ b < n)) :
    Calls Try.prog 10 #[.pointer (some ⟨bb, 0, none⟩), .agg #[.int .i64 a, .int .i64 b], .agg #[.int .i64 ta, .bool tf, .int .i64 tk]] w fun e w' => e = .returned (errV 5) ∧ Below w.heap.size w w' := by
  rw [errV_pos (by decide)]
  have HB := fun w' (k : Below w.heap.size w w') => bat_no a b (h.below k) hi
  have HB := hide HB
  clear h hi
  go_enter Try.func10, Try.ntmps10
  go_wp2_with fail
  refine (HB.out _ ?_).mono ?_
  · exact ((Below.refl _ _).alloc (Nat.le_refl _) _).alloc (by simp) _
  rintro e w1 ⟨rfl, b1⟩
  have b0 : Below w.heap.size w w1 := (((Below.refl _ _).alloc (Nat.le_refl _) _).alloc (by simp) _).trans (b1.mono (by simp; omega))
  clear b1 HB
  go_wp2
  go_ret
  exact ⟨rfl, b0⟩
set_option maxHeartbeats 1000000 in
theorem Put_full {ta tk : Int} {tf : Bool} {i j r : Nat} {row : List SlotV} {s : SlotV} {w : World} {base bb lb cap n : Nat} {rs : List Nat} {T : List (List SlotV)} (h : BT w base bb lb cap n rs T) (hi : rs[i]? = some r) (hT : T[i]? = some row) (hj : row[j]? = some s) (hs : s.1 = true) :
    Calls Try.prog 10 #[.pointer (some ⟨bb, 0, none⟩), .agg #[.int .i64 i, .int .i64 j], .agg #[.int .i64 ta, .bool tf, .int .i64 tk]] w fun e w' => e = .returned (errV 8) ∧ Below w.heap.size w w' := by
  rw [errV_pos (by decide)]
  obtain ⟨on, sa, sf, sk⟩ := s
  obtain rfl : on = true := hs
  have hjn := (h.elem hi hT hj).2.2.2.2.2
  have HB := fun w' (k : Below w.heap.size w w') => bat_yes (h.below k) hi hjn
  have HB := hide HB
  have HE := fun w' (k : Below w.heap.size w w') => (h.below k).elem hi hT hj
  have HE := hide HE
  clear h hi hT hj
  go_enter Try.func10, Try.ntmps10
  go_wp2_with fail
  refine (HB.out _ ?_).mono ?_
  · exact ((Below.refl _ _).alloc (Nat.le_refl _) _).alloc (by simp) _
  rintro e w1 ⟨rfl, b1⟩
  have b0 : Below w.heap.size w w1 := (((Below.refl _ _).alloc (Nat.le_refl _) _).alloc (by simp) _).trans (b1.mono (by simp; omega))
  obtain ⟨d0, _, _, _, _, _⟩ := HE.out w1 b0
  clear b1 HB HE
  go_wp2
  go_ret
  exact ⟨rfl, b0⟩
set_option maxHeartbeats 1000000 in
theorem Put_yes {ta tk : Int} {tf : Bool} {i j r : Nat} {row : List SlotV} {s : SlotV} {w : World} {base bb lb cap n : Nat} {rs : List Nat} {T : List (List SlotV)} (h : BT w base bb lb cap n rs T) (hi : rs[i]? = some r) (hT : T[i]? = some row) (hj : row[j]? = some s) (hs : s.1 = false) :
    Calls Try.prog 10 #[.pointer (some ⟨bb, 0, none⟩), .agg #[.int .i64 i, .int .i64 j], .agg #[.int .i64 ta, .bool tf, .int .i64 tk]] w fun e w' => e = .returned .nilIface ∧ KeptBut (fun q => q = r) w w' ∧ BT w' base bb lb cap n rs (T.set i (row.set j (true, ta, tf, tk))) := by
  obtain ⟨on, sa, sf, sk⟩ := s
  obtain rfl : on = false := hs
  have hjn := (h.elem hi hT hj).2.2.2.2.2
  have HB := fun w' (k : Below w.heap.size w w') => bat_yes (h.below k) hi hjn
  have HB := hide HB
  have HE := fun w' (k : Below w.heap.size w w') => (h.below k).elem hi hT hj
  have HE := hide HE
  have HP := fun w' (k : Below w.heap.size w w') => (h.below k).put hi hT hj (true, ta, tf, tk)
  have HP := hide HP
  have hrl := (h.lt0 hi).1
  clear h hi hT hj
  go_enter Try.func10, Try.ntmps10
  go_wp2_with fail
  refine (HB.out _ ?_).mono ?_
  · exact ((Below.refl _ _).alloc (Nat.le_refl _) _).alloc (by simp) _
  rintro e w1 ⟨rfl, b1⟩
  have b0 : Below w.heap.size w w1 := (((Below.refl _ _).alloc (Nat.le_refl _) _).alloc (by simp) _).trans (b1.mono (by simp; omega))
  obtain ⟨d0, d1, d2, d3, dz, _⟩ := HE.out w1 b0
  have z0 := dz (j * 4)
  have z1 := dz (j * 4 + 1)
  have z2 := dz (j * 4 + 2)
  have z3 := dz (j * 4 + 3)
  have HQ := hide (HP.out w1 b0)
  have HK := hide ((KeptBut.of_below (S := fun q => q = r) b0 (Nat.le_refl _)).trans (set4_kept w1 r j (true, ta, tf, tk)))
  generalize hwa : (w.alloc (Obj.cells #[Value.int IntKind.i64 i, Value.int IntKind.i64 j] 38)) = wa at *
  have e1 : w.heap.size + 1 = wa.heap.size := by rw [← hwa]; simp
  rw [e1]
  have r0 := cell_later b1 (new_task (w := wa) (t := 33) (cs := #[.int .i64 ta, .bool tf, .int .i64 tk]) (j := 0) rfl)
  have r1 := cell_later b1 (new_task (w := wa) (t := 33) (cs := #[.int .i64 ta, .bool tf, .int .i64 tk]) (j := 1) rfl)
  have r2 := cell_later b1 (new_task (w := wa) (t := 33) (cs := #[.int .i64 ta, .bool tf, .int .i64 tk]) (j := 2) rfl)
  clear hwa e1 b1 HB HE HP b0 dz
  generalize wa.heap.size = rb at *
  go_wp2
  go_ret
  exact ⟨rfl, HK.out, HQ.out⟩
end Go.Proofs.Ytidhjpjeehoglaa
