/- Errors as values; 'same' of package law. -/
import Derived.WalkKit
import Derived.WalkSpells
import Derived.WalkLawsBesides
import Derived.BigGuardPart
import Derived.Deep.QuietTactic
import Derived.BigQuiet
import Derived.Laws.Bits128
import Derived.Test.YtgeedjlbajmdkaaGreatDoorRows
set_option linter.unusedSimpArgs false
set_option linter.unusedVariables false
/- Small laws on slices that are read, over any program: what the walks of this seat share. -/
namespace Go.Proofs.YtgeedjlbajmdkaaGreatDoor
open Go.RowKit

theorem ret_i {k : IntKind} {a b : Int} (h : b = a) : Ending.returned (.int k a) = .returned (.int k b) := by rw [h]
theorem ret_b {a b : Bool} (h : b = a) : Ending.returned (.bool a) = .returned (.bool b) := by rw [h]
theorem hide {p : Prop} (h : p) : Hid p := h

/-- A slice that reads as the list 'l': element i lies in 'sz' cells from 'off + i * sz' on. -/
def Sl {α : Type} (sz : Nat) (enc : α → List Value) (w : World) (ao : Option Addr) (l : List α) : Prop :=
  0 < l.length → ∃ b off, ao = some ⟨b, off, none⟩ ∧ b < w.heap.size ∧ ∀ i x j v, l[i]? = some x → (enc x)[j]? = some v → w.cell? ⟨b, off + i * sz + j, none⟩ = some v

theorem Sl.nil {α : Type} {sz : Nat} {enc : α → List Value} {w : World} {ao : Option Addr} : Sl sz enc w ao [] := fun h => absurd h (by simp)

theorem Sl.later {α : Type} {sz : Nat} {enc : α → List Value} {w w' : World} {ao : Option Addr} {l : List α} {B : Nat} (h : Sl sz enc w ao l) (hb : Below B w w') (hB : w.heap.size ≤ B) : Sl sz enc w' ao l := by
  intro h0
  obtain ⟨b, off, e, hlt, hc⟩ := h h0
  refine ⟨b, off, e, by have := hb.size; omega, fun i x j v hi hj => ?_⟩
  rw [hb.cell (p := ⟨b, off + i * sz + j, none⟩) (by show b < B; omega)]
  exact hc i x j v hi hj

def encInt (n : Int) : List Value := [.int .i64 n]
def encBool (n : Bool) : List Value := [.bool n]
def encInt2 (q : Int × Int) : List Value := [.int .i64 q.1, .int .i64 q.2]

theorem Sl.int {w : World} {ao : Option Addr} {l : List Int} (h : Sl 1 encInt w ao l) {k : Nat} (hk : k < l.length) :
    ∃ b off x, ao = some ⟨b, off, none⟩ ∧ b < w.heap.size ∧ l[k]? = some x ∧ w.cell? ⟨b, off + k, none⟩ = some (.int .i64 x) := by
  obtain ⟨b, off, e, hlt, hc⟩ := h (by omega)
  refine ⟨b, off, l[k], e, hlt, by simp [hk], ?_⟩
  have := hc k l[k] 0 _ (by simp [hk]) rfl
  simpa using this
theorem Sl.bool {w : World} {ao : Option Addr} {l : List Bool} (h : Sl 1 encBool w ao l) {k : Nat} (hk : k < l.length) :
    ∃ b off x, ao = some ⟨b, off, none⟩ ∧ b < w.heap.size ∧ l[k]? = some x ∧ w.cell? ⟨b, off + k, none⟩ = some (.bool x) := by
  obtain ⟨b, off, e, hlt, hc⟩ := h (by omega)
  refine ⟨b, off, l[k], e, hlt, by simp [hk], ?_⟩
  have := hc k l[k] 0 _ (by simp [hk]) rfl
  simpa using this
theorem Sl.int2 {w : World} {ao : Option Addr} {l : List (Int × Int)} (h : Sl 2 encInt2 w ao l) {k : Nat} (hk : k < l.length) :
    ∃ b off x y, ao = some ⟨b, off, none⟩ ∧ b < w.heap.size ∧ l[k]? = some (x, y) ∧ w.cell? ⟨b, off + k * 2, none⟩ = some (.int .i64 x) ∧ w.cell? ⟨b, off + k * 2 + 1, none⟩ = some (.int .i64 y) := by
  obtain ⟨b, off, e, hlt, hc⟩ := h (by omega)
  refine ⟨b, off, l[k].1, l[k].2, e, hlt, by simp [hk], ?_, ?_⟩
  · have := hc k l[k] 0 _ (by simp [hk]) rfl
    simpa using this
  · have := hc k l[k] 1 _ (by simp [hk]) rfl
    simpa using this

theorem flat_get {α : Type} {sz : Nat} {enc : α → List Value} (hsz : ∀ x, (enc x).length = sz) : ∀ {l : List α} {i : Nat} {x : α} {j : Nat} {v : Value}, l[i]? = some x → (enc x)[j]? = some v → (l.flatMap enc)[i * sz + j]? = some v
  | [], i, x, j, v, h, _ => by simp at h
  | a :: l, 0, x, j, v, h, hj => by
    have e : a = x := by simpa using h
    subst e
    have hlt : j < (enc a).length := by
      by_cases hc : j < (enc a).length
      · exact hc
      · simp [List.getElem?_eq_none (by omega : (enc a).length ≤ j)] at hj
    rw [List.flatMap_cons, Nat.zero_mul, Nat.zero_add, List.getElem?_append_left hlt]; exact hj
  | a :: l, i + 1, x, j, v, h, hj => by
    have h' : l[i]? = some x := by simpa using h
    rw [List.flatMap_cons, List.getElem?_append_right (by rw [hsz, Nat.succ_mul]; omega), hsz]
    have : (i + 1) * sz + j - sz = i * sz + j := by rw [Nat.succ_mul]; omega
    rw [this]; exact flat_get hsz h' hj
theorem Sl.block {α : Type} {sz : Nat} {enc : α → List Value} {w : World} {b : Nat} {cs : Array Value} {t : TypeId} {fr : Nat × Nat} {l : List α} (hsz : ∀ x, (enc x).length = sz) (hb : w.heap[b]? = some (.cells cs t fr)) (hc : ∀ (j : Nat) (v : Value), (l.flatMap enc)[j]? = some v → cs[j]? = some v) : Sl sz enc w (some ⟨b, 0, none⟩) l := by
  intro _
  refine ⟨b, 0, rfl, (Array.getElem?_eq_some_iff.1 hb).1, fun i x j v hi hj => ?_⟩
  have := hc _ v (flat_get hsz hi hj)
  simp [World.cell?, hb, this]
theorem Sl.lit {α : Type} {sz : Nat} {enc : α → List Value} {w : World} {b : Nat} {cs : Array Value} {t : TypeId} {fr : Nat × Nat} {l : List α} (hsz : ∀ x, (enc x).length = sz) (hb : w.heap[b]? = some (.cells cs t fr)) (hc : cs.toList = l.flatMap enc) : Sl sz enc w (some ⟨b, 0, none⟩) l :=
  Sl.block hsz hb fun j v h => by rw [← hc] at h; simpa using h
theorem heap_new (w : World) (o : Obj) : (w.alloc o).heap[w.heap.size]? = some o := by
  show (w.heap.push o)[w.heap.size]? = _
  simp
theorem heap_old {w : World} {b : Nat} {x : Obj} (o : Obj) (h : w.heap[b]? = some x) : (w.alloc o).heap[b]? = some x := by
  rw [Below.heap_alloc _ _ _ (Array.getElem?_eq_some_iff.1 h).1]; exact h
theorem heap_at {w : World} {o : Obj} {n : Nat} (h : n = w.heap.size) : (w.alloc o).heap[n]? = some o := by subst h; exact heap_new w o
theorem heap_size (w : World) (o : Obj) : (w.alloc o).heap.size = w.heap.size + 1 := by simp

/-- A pair: its key, its value. -/
abbrev Pr := ByteArray × Int
def encP (p : Pr) : List Value := [.string p.1, .int .i64 p.2]
theorem encP_len (p : Pr) : (encP p).length = 2 := rfl
theorem Sl.pair {w : World} {ao : Option Addr} {l : List Pr} (h : Sl 2 encP w ao l) {k : Nat} (hk : k < l.length) :
    ∃ b off x y, ao = some ⟨b, off, none⟩ ∧ b < w.heap.size ∧ l[k]? = some (x, y) ∧ w.cell? ⟨b, off + k * 2, none⟩ = some (.string x) ∧ w.cell? ⟨b, off + k * 2 + 1, none⟩ = some (.int .i64 y) := by
  obtain ⟨b, off, e, hlt, hc⟩ := h (by omega)
  refine ⟨b, off, l[k].1, l[k].2, e, hlt, by simp [hk], ?_, ?_⟩
  · have := hc k l[k] 0 _ (by simp [hk]) rfl
    simpa using this
  · have := hc k l[k] 1 _ (by simp [hk]) rfl
    simpa using this

theorem tl (s : ByteArray) : s.toList = s.data.toList := by cases s; rw [ByteArray.toList_mk]
theorem tl_inj {a b : ByteArray} (h : a.toList = b.toList) : a = b := by
  rw [tl, tl] at h
  cases a; cases b
  congr
  exact Array.toList_inj.1 h
theorem bneq {a b : ByteArray} (h : ¬ a = b) : (a.toList == b.toList) = false := by
  rw [beq_eq_false_iff_ne]; exact fun e => h (tl_inj e)
theorem beqq (a : ByteArray) : (a.toList == a.toList) = true := by rw [beq_iff_eq]

theorem cellSetO {w : World} {a b : Addr} {v x : Value} (hc : w.cell? b = some x) (h : a ≠ b) : (w.setCell a v).cell? b = some x := by
  rw [World.cell?_setCell_other w a b v h]; exact hc
theorem cellSetS {w : World} {a : Addr} {v u : Value} (hc : w.cell? a = some u) : (w.setCell a v).cell? a = some v := World.cell?_setCell_same w a v hc

theorem i64_and63 (n : Int) : bits .and .i64 n 63 = n % 64 := by
  have h63 : (BitVec.ofInt 64 63).toNat = 2 ^ 6 - 1 := by decide
  have key : (BitVec.ofInt 64 n &&& BitVec.ofInt 64 63).toNat = (n % ((2 ^ 64 : Nat) : Int)).toNat % 2 ^ 6 := by
    rw [BitVec.toNat_and, BitVec.toNat_ofInt, h63, Nat.and_two_pow_sub_one_eq_mod]
  show IntKind.i64.wrap ((BitVec.ofInt 64 n &&& BitVec.ofInt 64 63).toNat : Nat) = n % 64
  rw [key, IntKind.wrap_i64]
  omega
theorem i64_and1023 (n : Int) : bits .and .i64 n 1023 = n % 1024 := by
  have h1023 : (BitVec.ofInt 64 1023).toNat = 2 ^ 10 - 1 := by decide
  have key : (BitVec.ofInt 64 n &&& BitVec.ofInt 64 1023).toNat = (n % ((2 ^ 64 : Nat) : Int)).toNat % 2 ^ 10 := by
    rw [BitVec.toNat_and, BitVec.toNat_ofInt, h1023, Nat.and_two_pow_sub_one_eq_mod]
  show IntKind.i64.wrap ((BitVec.ofInt 64 n &&& BitVec.ofInt 64 1023).toNat : Nat) = n % 1024
  rw [key, IntKind.wrap_i64]
  omega
end Go.Proofs.YtgeedjlbajmdkaaGreatDoor
namespace Go.Proofs.YtgeedjlbajmdkaaGreatDoor
open Go.RowKit
def errV (n : Int) : Value := if n = 0 then .nilIface else .iface 76 (.int .i64 n)
theorem errV_zero : errV 0 = .nilIface := rfl
theorem errV_pos {n : Int} (h : n ≠ 0) : errV n = .iface 76 (.int .i64 n) := if_neg h
theorem dec0 (f : Int) : decide (0 = f) = (f == 0) := by
  rw [Bool.eq_iff_iff]; simp only [decide_eq_true_eq, beq_iff_eq]; omega
theorem same_nil (f : Int) (w : World) :
    Calls Tryz.prog 9 #[.nilIface, .int .i64 f] w fun e w' => e = .returned (.bool (decide (0 = f))) ∧ w = w' := by
  go_enter Tryz.func9, Tryz.ntmps9
  go_wp2
  go_ret
  exact ⟨ret_b (dec0 f), rfl⟩
theorem ta88 (n : Int) (w : World) : (Instr.typeAssert (.iface 76 (.int .i64 n)) 30 76 true).run Tryz.prog w = .ok (.tuple #[.int .i64 n, .bool true]) w := by kernel_rfl
set_option maxRecDepth 100000 in
theorem same_err (n f : Int) (w : World) (hn : 0 < n) :
    Calls Tryz.prog 9 #[.iface 76 (.int .i64 n), .int .i64 f] w fun e w' => e = .returned (.bool (decide (n = f))) ∧ w = w' := by
  have hta := ta88 n
  by_cases hf : 0 < f
  · have hf' : decide (0 < f) = true := by simpa using hf
    go_enter Tryz.func9, Tryz.ntmps9
    go_wp2
    go_ret
    exact ⟨ret_b (by by_cases h : n = f <;> simp [h]), rfl⟩
  · have hf' : decide (0 < f) = false := by simpa using hf
    go_enter Tryz.func9, Tryz.ntmps9
    go_wp2
    go_ret
    exact ⟨ret_b (by simp; omega), rfl⟩
theorem same_any (n f : Int) (w : World) (hn : 0 ≤ n) :
    Calls Tryz.prog 9 #[errV n, .int .i64 f] w fun e w' => e = .returned (.bool (decide (n = f))) ∧ w = w' := by
  unfold errV
  by_cases h : n = 0
  · subst h; exact same_nil f w
  · rw [if_neg h]; exact same_err n f w (by omega)
end Go.Proofs.YtgeedjlbajmdkaaGreatDoor
