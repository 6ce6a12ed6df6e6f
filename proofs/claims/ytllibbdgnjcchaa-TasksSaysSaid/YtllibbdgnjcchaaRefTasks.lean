/- The reference's tasks: List, Has, Over, NextOf: what each returns over the lists of states. -/
import Derived.Test.YtllibbdgnjcchaaTasks4
namespace Go.Proofs.Ytllibbdgnjcchaa
open Go.RowKit

/-- The reference's tasks in memory: at mb; the parts' states pb, the slices' sb, who has what hb. -/
structure RM (w : World) (base mb pb sb hb : Nat) (P Q W : List Int) : Prop where
  c0 : w.cell? ⟨mb, 0, none⟩ = some (.slice (some ⟨pb, 0, none⟩) P.length P.length)
  c1 : w.cell? ⟨mb, 1, none⟩ = some (.slice (some ⟨sb, 0, none⟩) Q.length Q.length)
  c2 : w.cell? ⟨mb, 2, none⟩ = some (.slice (some ⟨hb, 0, none⟩) W.length W.length)
  op : Own 1 encInt 3 w base (.slice (some ⟨pb, 0, none⟩) P.length P.length) P
  oq : Own 1 encInt 3 w base (.slice (some ⟨sb, 0, none⟩) Q.length Q.length) Q
  ow : Own 1 encInt 3 w base (.slice (some ⟨hb, 0, none⟩) W.length W.length) W
  bt : base ≤ mb
  d1 : mb ≠ pb
  d2 : mb ≠ sb
  d3 : mb ≠ hb
  d4 : pb ≠ sb
  d5 : pb ≠ hb
  d6 : sb ≠ hb
  lp : P.length ≤ 60
  ls : Q.length ≤ 4
  lw : W.length = P.length
theorem RM.kept {S : Nat → Prop} {w w' : World} {base mb pb sb hb : Nat} {P Q W : List Int} (h : RM w base mb pb sb hb P Q W) (k : KeptBut S w w') (h1 : ¬ S mb) (h2 : ¬ S pb) (h3 : ¬ S sb) (h4 : ¬ S hb) : RM w' base mb pb sb hb P Q W :=
  ⟨k.cell h.c0 h1, k.cell h.c1 h1, k.cell h.c2 h1, k.own h.op (fun _ e => by cases e; exact h2), k.own h.oq (fun _ e => by cases e; exact h3), k.own h.ow (fun _ e => by cases e; exact h4), h.bt, h.d1, h.d2, h.d3, h.d4, h.d5, h.d6, h.lp, h.ls, h.lw⟩
theorem RM.below {w w' : World} {base mb pb sb hb : Nat} {P Q W : List Int} (h : RM w base mb pb sb hb P Q W) (k : Below w.heap.size w w') : RM w' base mb pb sb hb P Q W :=
  h.kept (S := fun _ => False) (KeptBut.of_below k (Nat.le_refl _)) id id id id

def listOf (fold : Bool) (P Q : List Int) : List Int := if fold then Q else P
theorem List_any (fold : Bool) {w : World} {base mb pb sb hb : Nat} {P Q W : List Int} (h : RM w base mb pb sb hb P Q W) :
    Calls Try.prog 61 #[.pointer (some ⟨mb, 0, none⟩), .bool fold] w fun e w' => e = .returned (.slice (some ⟨blkOf fold pb sb, 0, none⟩) (listOf fold P Q).length (listOf fold P Q).length) ∧ w = w' := by
  have c0 := h.c0
  have c1 := h.c1
  clear h
  cases fold
  · show Calls _ _ _ _ fun e w' => e = .returned (.slice (some ⟨pb, 0, none⟩) P.length P.length) ∧ w = w'
    go_enter Try.func61, Try.ntmps61
    go_wp2
    go_ret
    exact ⟨rfl, rfl⟩
  · show Calls _ _ _ _ fun e w' => e = .returned (.slice (some ⟨sb, 0, none⟩) Q.length Q.length) ∧ w = w'
    go_enter Try.func61, Try.ntmps61
    go_wp2
    go_ret
    exact ⟨rfl, rfl⟩
def isThere (i : Int) (n : Nat) : Bool := decide (0 ≤ i) && decide (i < n)
theorem Has_any (fold : Bool) (i : Int) {w : World} {base mb pb sb hb : Nat} {P Q W : List Int} (h : RM w base mb pb sb hb P Q W) :
    Calls Try.prog 60 #[.pointer (some ⟨mb, 0, none⟩), .bool fold, .int .i64 i] w fun e w' => e = .returned (.bool (isThere i (listOf fold P Q).length)) ∧ w = w' := by
  have HL := hide (List_any fold h)
  clear h
  generalize (listOf fold P Q).length = n at *
  generalize blkOf fold pb sb = bb at *
  by_cases h0 : 0 ≤ i
  · have e0 : decide (0 ≤ i) = true := by simpa using h0
    have hr : isThere i n = decide (i < n) := by unfold isThere; rw [e0]; rfl
    have Hr := hide hr; clear hr
    go_enter Try.func60, Try.ntmps60
    go_wp2_with fail
    refine HL.out.mono ?_
    rintro e w1 ⟨rfl, rfl⟩
    go_wp2
    go_ret
    exact ⟨by rw [Hr.out]; rfl, rfl⟩
  · have e0 : decide (0 ≤ i) = false := by simpa using h0
    have hr : isThere i n = false := by unfold isThere; rw [e0]; rfl
    have Hr := hide hr; clear hr
    go_enter Try.func60, Try.ntmps60
    go_wp2_with fail
    refine HL.out.mono ?_
    rintro e w1 ⟨rfl, rfl⟩
    go_wp2
    go_ret
    exact ⟨by rw [Hr.out]; rfl, rfl⟩

theorem RM.sl {fold : Bool} {w : World} {base mb pb sb hb : Nat} {P Q W : List Int} (h : RM w base mb pb sb hb P Q W) : Sl 1 encInt w (some ⟨blkOf fold pb sb, 0, none⟩) (listOf fold P Q) := by
  cases fold
  · exact h.op.sl encInt_len
  · exact h.oq.sl encInt_len
def allTwo (l : List Int) : Bool := l.all fun x => x == 2
set_option maxHeartbeats 1000000 in
theorem Over_any (fold : Bool) {w : World} {base mb pb sb hb : Nat} {P Q W : List Int} (h : RM w base mb pb sb hb P Q W) :
    Calls Try.prog 62 #[.pointer (some ⟨mb, 0, none⟩), .bool fold] w fun e w' => e = .returned (.bool (allTwo (listOf fold P Q))) ∧ w = w' := by
  have HL := hide (List_any fold h)
  have hsl := h.sl (fold := fold)
  have hlen : (listOf fold P Q).length ≤ 60 := by cases fold; exact h.lp; exact Nat.le_trans h.ls (by decide)
  clear h
  generalize listOf fold P Q = l at *
  generalize blkOf fold pb sb = bb at *
  go_enter Try.func62, Try.ntmps62
  go_wp2_with fail
  refine HL.out.mono ?_
  rintro e w1 ⟨rfl, rfl⟩
  clear HL
  go_wp2
  go_loop [6] (fun i => ∃ k : Nat, k ≤ l.length ∧ i = .int .i64 k ∧ ∀ i x, i < k → l[i]? = some x → (x == 2) = true) (fun i => l.length - (intOf i).toNat)
  case atStart => exact ⟨0, by omega, rfl, fun i x h => absurd h (by omega)⟩
  case round =>
    obtain ⟨k, hk, rfl, hok⟩ := hrel
    have HOK := hide hok; clear hok
    by_cases hlt : k < l.length
    · obtain ⟨_, _, x, e1, _, hlk, c0⟩ := hsl.int hlt
      cases e1
      rw [Nat.zero_add] at c0
      have Hlk := hide hlk; clear hlk
      by_cases hx : x = 2
      · have e1 : (x != 2) = false := by simpa using hx
        have HX := hide hx; clear hx
        go_wp2
        go_round
        case rel => exact ⟨k+1, by omega, by go_num, fun i z hi hz => by
            by_cases e : i = k
            · subst e; rw [Hlk.out] at hz; cases hz; simpa using HX.out
            · exact HOK.out i z (by omega) hz⟩
        case measure => simp [intOf]; omega
      · have e1 : (x != 2) = true := by simpa using hx
        have HX := hide hx; clear hx
        go_wp2
        go_ret
        refine ⟨ret_b ?_, rfl⟩
        unfold allTwo
        rw [List.all_eq_false]
        exact ⟨x, List.mem_of_getElem? Hlk.out, by simpa using HX.out⟩
    · go_wp2
      go_ret
      refine ⟨ret_b ?_, rfl⟩
      unfold allTwo
      rw [List.all_eq_true]
      intro x hx
      obtain ⟨i, hi⟩ := List.getElem?_of_mem hx
      exact HOK.out i x (by have := (List.getElem?_eq_some_iff.1 hi).1; omega) hi

theorem allTwo_map (ps : List (Int × Int)) : allTwo (ps.map (·.1)) = allDone ps := by
  unfold allTwo allDone cnt
  rw [Bool.eq_iff_iff, List.all_eq_true, decide_eq_true_eq]
  constructor
  · intro h
    rw [List.filter_eq_self.2]
    intro x hx; exact h x.1 (List.mem_map_of_mem hx)
  · intro h x hx
    obtain ⟨y, hy, rfl⟩ := List.mem_map.1 hx
    exact List.filter_eq_self.1 (List.Sublist.eq_of_length List.filter_sublist h) y hy
end Go.Proofs.Ytllibbdgnjcchaa
