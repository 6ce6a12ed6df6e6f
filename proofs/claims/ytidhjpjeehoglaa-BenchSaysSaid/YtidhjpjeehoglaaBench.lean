/- Package bench: which task is in which slot: what lies where; at. -/
import Derived.Test.YtidhjpjeehoglaaNums
import Derived.Test.YtidhjpjeehoglaaErr
import Derived.Deep.RegionHeld3
namespace Go.Proofs.Ytidhjpjeehoglaa
open Go.RowKit

/-- A slot: is a task in it; its job, its kind, its number. -/
abbrev SlotV := Bool × Int × Bool × Int
def encS (s : SlotV) : List Value := [.bool s.1, .int .i64 s.2.1, .bool s.2.2.1, .int .i64 s.2.2.2]
theorem encS_len (s : SlotV) : (encS s).length = 4 := rfl
def encR (n : Nat) (r : Nat) : List Value := [.slice (some ⟨r, 0, none⟩) n n]
theorem encR_len (n : Nat) (r : Nat) : (encR n r).length = 1 := rfl

/-- The bench in memory: at bb; its rows' headers lb; the rows rs, n slots each; what is in them T. -/
structure BT (w : World) (base bb lb cap n : Nat) (rs : List Nat) (T : List (List SlotV)) : Prop where
  c0 : w.cell? ⟨bb, 0, none⟩ = some (.slice (some ⟨lb, 0, none⟩) rs.length cap)
  ol : Own 1 (encR n) 72 w base (.slice (some ⟨lb, 0, none⟩) rs.length cap) rs
  ow : ∀ (i : Nat) r row, rs[i]? = some r → T[i]? = some row → Own 4 encS 77 w base (.slice (some ⟨r, 0, none⟩) n n) row
  lt : T.length = rs.length
  bt : base ≤ bb
  d1 : bb ≠ lb
  d2 : ∀ (i : Nat) r, rs[i]? = some r → r ≠ bb ∧ r ≠ lb
  d3 : ∀ (i j : Nat) r, rs[i]? = some r → rs[j]? = some r → i = j
  lr : rs.length ≤ 4
  ln : n ≤ 3
  l1 : 1 ≤ rs.length
  l2 : 1 ≤ n
theorem BT.kept {S : Nat → Prop} {w w' : World} {base bb lb cap n : Nat} {rs : List Nat} {T : List (List SlotV)} (h : BT w base bb lb cap n rs T) (k : KeptBut S w w') (h1 : ¬ S bb) (h2 : ¬ S lb) (h3 : ∀ (i : Nat) r, rs[i]? = some r → ¬ S r) : BT w' base bb lb cap n rs T :=
  ⟨k.cell h.c0 h1, k.own h.ol (fun _ e => by cases e; exact h2), fun i r row hr ht => k.own (h.ow i r row hr ht) (fun _ e => by cases e; exact h3 i r hr), h.lt, h.bt, h.d1, h.d2, h.d3, h.lr, h.ln, h.l1, h.l2⟩
theorem BT.below {w w' : World} {base bb lb cap n : Nat} {rs : List Nat} {T : List (List SlotV)} (h : BT w base bb lb cap n rs T) (k : Below w.heap.size w w') : BT w' base bb lb cap n rs T :=
  h.kept (S := fun _ => False) (KeptBut.of_below k (Nat.le_refl _)) id id (fun _ _ _ => id)
theorem BT.row {w : World} {base bb lb cap n : Nat} {rs : List Nat} {T : List (List SlotV)} (h : BT w base bb lb cap n rs T) {i : Nat} (hi : i < rs.length) :
    ∃ r row, rs[i]? = some r ∧ T[i]? = some row ∧ row.length = n ∧ w.cell? ⟨lb, i, none⟩ = some (.slice (some ⟨r, 0, none⟩) n n) ∧ Own 4 encS 77 w base (.slice (some ⟨r, 0, none⟩) n n) row := by
  have hi' : i < T.length := by rw [h.lt]; exact hi
  refine ⟨rs[i], T[i], by simp [hi], by simp [hi'], ?_, ?_, ?_⟩
  · exact (h.ow i rs[i] T[i] (by simp [hi]) (by simp [hi'])).len.symm
  · have := h.ol.cellAt (i := i) (j := 0) (x := rs[i]) (encR_len n) (by simp [hi]) rfl
    simpa using this
  · exact h.ow i rs[i] T[i] (by simp [hi]) (by simp [hi'])

def place (a b : Int) : Value := .agg #[.int .i64 a, .int .i64 b]
theorem ba (w : World) (o : Obj) : Below w.heap.size w (w.alloc o) := (Below.refl _ _).alloc (Nat.le_refl _) _
theorem bq (w : World) (o : Obj) (nq : Nat) : Below w.heap.size w ((w.alloc o).drewN nq) := below_drewN ((Below.refl _ _).alloc (Nat.le_refl _) _) _
set_option maxHeartbeats 1000000 in
theorem bat_no (a b : Int) {w : World} {base bb lb cap n : Nat} {rs : List Nat} {T : List (List SlotV)} (h : BT w base bb lb cap n rs T) (hi : ¬ (0 ≤ a ∧ a < rs.length ∧ 0 ≤ b ∧ b < n)) :
    Calls Try.prog 32 #[.pointer (some ⟨bb, 0, none⟩), .agg #[.int .i64 a, .int .i64 b]] w fun e w' => e = .returned (.pointer none) ∧ Below w.heap.size w w' := by
  have c0 := h.c0
  have hlr := h.lr
  have hln := h.ln
  by_cases h0 : a < 0
  · have e1 : decide (a < 0) = true := by simpa using h0
    clear h hi
    go_enter Try.func32, Try.ntmps32
    go_wp2
    go_quiet (fail)
    go_wp2
    go_ret
    exact ⟨rfl, bq _ _ _⟩
  · have e1 : decide (a < 0) = false := by simpa using h0
    obtain ⟨i, rfl⟩ : ∃ i : Nat, a = i := ⟨a.toNat, by omega⟩
    by_cases h1 : rs.length ≤ i
    · have e2 : decide (rs.length ≤ i) = true := by simpa using h1
      have c0' := cell_later (ba w (.cells #[.int .i64 i, .int .i64 b] 38)) c0
      clear h hi
      go_enter Try.func32, Try.ntmps32
      go_wp2
      go_quiet (fail)
      go_wp2
      go_ret
      exact ⟨rfl, bq _ _ _⟩
    · have e2 : decide (rs.length ≤ i) = false := by simpa using h1
      by_cases h2 : b < 0
      · have e3 : decide (b < 0) = true := by simpa using h2
        have c0' := cell_later (ba w (.cells #[.int .i64 i, .int .i64 b] 38)) c0
        clear h hi
        go_enter Try.func32, Try.ntmps32
        go_wp2
        go_quiet (fail)
        go_wp2
        go_ret
        exact ⟨rfl, bq _ _ _⟩
      · have e3 : decide (b < 0) = false := by simpa using h2
        obtain ⟨j, rfl⟩ : ∃ j : Nat, b = j := ⟨b.toNat, by omega⟩
        have e4 : decide (n ≤ j) = true := by simp; omega
        obtain ⟨r, row, _, _, _, c1, _⟩ := h.row (i := i) (by omega)
        have hlt : i < rs.length := by omega
        have c0' := cell_later (ba w (.cells #[.int .i64 i, .int .i64 j] 38)) c0
        have c1' := cell_later (ba w (.cells #[.int .i64 i, .int .i64 j] 38)) c1
        clear h hi
        go_enter Try.func32, Try.ntmps32
        go_wp2
        go_quiet (fail)
        go_wp2
        go_ret
        exact ⟨rfl, bq _ _ _⟩
set_option maxHeartbeats 1000000 in
theorem bat_yes {i j r : Nat} {w : World} {base bb lb cap n : Nat} {rs : List Nat} {T : List (List SlotV)} (h : BT w base bb lb cap n rs T) (hi : rs[i]? = some r) (hj : j < n) :
    Calls Try.prog 32 #[.pointer (some ⟨bb, 0, none⟩), .agg #[.int .i64 i, .int .i64 j]] w fun e w' => e = .returned (.pointer (some ⟨r, j * 4, none⟩)) ∧ Below w.heap.size w w' := by
  have c0 := h.c0
  have hlr := h.lr
  have hln := h.ln
  have hlt : i < rs.length := (List.getElem?_eq_some_iff.1 hi).1
  obtain ⟨r', row, hr, _, _, c1, _⟩ := h.row (i := i) hlt
  rw [hi] at hr
  obtain rfl := Option.some.inj hr
  have e2 : decide (rs.length ≤ i) = false := by simp; omega
  have e4 : decide (n ≤ j) = false := by simp; omega
  have c0' := cell_later (ba w (.cells #[.int .i64 i, .int .i64 j] 38)) c0
  have c1' := cell_later (ba w (.cells #[.int .i64 i, .int .i64 j] 38)) c1
  clear h hi hr
  go_enter Try.func32, Try.ntmps32
  go_wp2
  go_quiet (fail)
  go_wp2
  go_quiet (fail)
  go_wp2
  go_ret
  exact ⟨rfl, below_drewN (bq _ _ _) _⟩
end Go.Proofs.Ytidhjpjeehoglaa
