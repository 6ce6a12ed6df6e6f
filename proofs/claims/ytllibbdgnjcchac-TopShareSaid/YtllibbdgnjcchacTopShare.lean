/- 'TopShare' returns true for every input and leaves its arguments as they were; no condition. -/
import Derived.Test.YtllibbdgnjcchacPickLaw
import Derived.Test.YtllibbdgnjcchacOwn
import Derived.Test.YtllibbdgnjcchacOpen
namespace Go.Proofs.Ytllibbdgnjcchac
open Go.ChangeShapes Go.WideShapes Go.ChangeAt Go.RowKit

theorem infoInt : (Try.prog.info? 3).map (fun i => (i.zero, i.size, i.bytes)) = some (some (.int .i64 0), 1, 8) := by kernel_rfl
theorem infoBool : (Try.prog.info? 4).map (fun i => (i.zero, i.size, i.bytes)) = some (some (.bool false), 1, 1) := by kernel_rfl
theorem infoQueue : (Try.prog.info? 27).map (fun i => (i.zero, i.size, i.bytes)) = some (some (.agg #[.int .i64 0, .int .i64 0]), 2, 16) := by kernel_rfl
theorem encInt_len (x : Int) : (encInt x).length = 1 := rfl
theorem encBool_len (x : Bool) : (encBool x).length = 1 := rfl
theorem encInt2_len (x : Int × Int) : (encInt2 x).length = 2 := rfl

/-- what each has, by what it weighs: never more than one slot more than any other -/
def Fair (l : List (Int × Int)) (hh : List Int) : Prop := ∀ (i j : Nat) (x y a b c d : Int), hh[i]? = some x → hh[j]? = some y → l[i]? = some (a, c) → l[j]? = some (b, d) → (x - 1) * b ≤ y * a
def big (l : List (Int × Int)) : List (Int × Int) := l.map fun q => (q.1, (1000 : Int))
theorem big_get {l : List (Int × Int)} {i : Nat} {a c : Int} (h : l[i]? = some (a, c)) : (big l)[i]? = some (a, 1000) := by simp [big, h]
theorem fair_zero {l : List (Int × Int)} (hw : ∀ q ∈ l, 1 ≤ q.1) (n : Nat) : Fair l (List.replicate n (0 : Int)) := by
  intro i j x y a b c d hx hy ha hb
  have h1 : x = 0 := by rw [List.getElem?_replicate] at hx; split at hx <;> simp_all
  have h2 : y = 0 := by rw [List.getElem?_replicate] at hy; split at hy <;> simp_all
  have hb1 := hw _ (List.mem_of_getElem? hb)
  subst h1 h2
  simp; exact Int.le_trans (by decide) hb1
theorem fair_set {l : List (Int × Int)} {hh : List Int} {m : Nat} {y v d : Int} (hw : ∀ q ∈ l, 1 ≤ q.1) (hF : Fair l hh) (hm : hh[m]? = some y) (hv : l[m]? = some (v, d))
    (hbest : ∀ (j : Nat) (x b c : Int), hh[j]? = some x → l[j]? = some (b, c) → ¬ x * v < y * b) : Fair l (hh.set m (y + 1)) := by
  have hlm : m < hh.length := (List.getElem?_eq_some_iff.1 hm).1
  intro i j x z a b c e hx hz ha hb
  have a1 := hw _ (List.mem_of_getElem? ha)
  have b1 := hw _ (List.mem_of_getElem? hb)
  have v1 := hw _ (List.mem_of_getElem? hv)
  by_cases hi : m = i
  · subst hi
    rw [List.getElem?_set_self hlm] at hx; cases hx
    rw [hv] at ha; cases ha
    by_cases hj : m = j
    · subst hj
      rw [List.getElem?_set_self hlm] at hz; cases hz
      rw [hv] at hb; cases hb
      have := Int.mul_le_mul_of_nonneg_right (show y + 1 - 1 ≤ y + 1 by omega) (show (0 : Int) ≤ v by omega)
      exact this
    · rw [List.getElem?_set_ne hj] at hz
      have := hbest j z b e hz hb
      rw [Int.add_sub_cancel]; omega
  · rw [List.getElem?_set_ne hi] at hx
    by_cases hj : m = j
    · subst hj
      rw [List.getElem?_set_self hlm] at hz; cases hz
      rw [hv] at hb; cases hb
      have h1 := hF i m x y a v c d hx hm ha hv
      have h2 := Int.mul_le_mul_of_nonneg_right (show y ≤ y + 1 by omega) (show (0 : Int) ≤ a by omega)
      omega
    · rw [List.getElem?_set_ne hj] at hz
      exact hF i j x z a b c e hx hz ha hb

theorem Check_all (ao : Option Addr) (cap : Nat) (l : List (Int × Int)) (w : World) (hs : Sl 2 encInt2 w ao l) :
    Calls Try.prog 6 #[.slice ao l.length cap] w fun e w' => e = .returned (errV (qfault l)) ∧ Below w.heap.size w w' := by
  by_cases h : l.length ≤ 1000
  · exact Check_any ao cap l w h hs
  · have hb : ¬ (1 ≤ l.length ∧ l.length ≤ 4) := by omega
    have e1 : decide ((l.length : Int) < 1) = false := by simp; omega
    have e2 : decide (4 < (l.length : Int)) = true := by simp; omega
    go_enter Try.func6, Try.ntmps6
    go_wp2
    go_ret
    exact ⟨by rw [qfault_many hb]; rfl, Below.refl _ _⟩

set_option maxRecDepth 100000 in
set_option maxHeartbeats 2000000 in
theorem TopShare_walk (ao : Option Addr) (ca : Nat) (l : List (Int × Int)) (many : Int) (w : World) (hlm : l.length ≤ maxLen) (hs : Sl 2 encInt2 w ao l) :
    Calls Try.prog 4 #[.slice ao l.length ca, .int .i64 many] w fun e w' => e = .returned (.bool true) ∧ Below w.heap.size w w' := by
  obtain ⟨i1, j1, j2, j3, j4⟩ := info_parts infoInt
  obtain ⟨i2, m1, m2, m3, m4⟩ := info_parts infoBool
  obtain ⟨i3, n1, n2, n3, n4⟩ := info_parts infoQueue
  go_enter Try.func4, Try.ntmps4
  go_wp2_with fail
  refine (Pick_any (some ⟨w.heap.size, 0, none⟩) (some ⟨w.heap.size + 1, 0, none⟩) (some ⟨w.heap.size + 1 + 1, 0, none⟩) 1 1 1 [(2, 3)] [1] [true] _ (by decide) (by decide) (by decide) ?_ ?_ ?_ (by decide) (by decide)).mono ?_
  · exact Sl.lit (fun _ => rfl) (heap_old _ (heap_old _ (heap_new _ _))) rfl
  · exact Sl.lit (fun _ => rfl) (heap_old _ (heap_at (by simp))) rfl
  · exact Sl.lit (fun _ => rfl) (heap_at (by simp)) rfl
  rintro e w0 ⟨rfl, hb0'⟩
  have hp : pickTo [(2, 3)] [1] [true] [((2 : Int), (3 : Int))].length = 0 := by decide
  rw [hp]
  have hb0 : Below w.heap.size w w0 := ((((Below.refl _ _).alloc (Nat.le_refl _) _).alloc (by simp) _).alloc (by simp; omega) _).trans (hb0'.mono (by simp; omega))
  clear hb0' hp
  go_wp2_with fail
  refine (Check_all ao ca l _ (hs.later hb0 (Nat.le_refl _))).mono ?_
  rintro e w1 ⟨rfl, hb1⟩
  have hb2 : Below w.heap.size w w1 := hb0.trans (hb1.mono hb0.size)
  clear hb1 hb0
  by_cases hq : qfault l = 0
  · obtain ⟨q1, q2, q9⟩ := qfault_zero' hq
    rw [hq, errV_zero]
    clear hq
    go_wp2_with (first
      | (at_make; refine wpList_make_list (base := w.heap.size) (w0 := w) (e := 3) (enc := encInt) encInt_len (.tmp 23) _ 23 i1 _ 0 l.length rfl rfl Try.underlying23 j1 j2 j3 rfl rfl (by omega) rfl rfl (by omega) hb2 hb2.size ?_; intro w2 own1 hb3 hx1 hx2)
      | (at_make; refine wpList_make_list (base := w.heap.size) (w0 := w) (e := 4) (enc := encBool) encBool_len (.tmp 26) _ 24 i2 _ false l.length rfl rfl Try.underlying24 m1 m2 m3 rfl rfl (by omega) rfl rfl (by omega) hb3 hb3.size ?_; intro w3 own2 hb4 hx3 hx4)
      | (at_make; refine wpList_make_list (base := w.heap.size) (w0 := w) (e := 27) (enc := encInt2) encInt2_len (.tmp 29) _ 22 i3 _ (0, 0) l.length rfl rfl Try.underlying22 n1 n2 n3 rfl rfl (by omega) rfl rfl (by omega) hb4 hb4.size ?_; intro w4 own3 hb5 hx5 hx6))
    have own1' := (own1.later hx3).later hx5
    have own2' := own2.later hx5
    have hg1 : w.heap.size ≤ w1.heap.size := hb2.size
    have hg2 : w1.heap.size < w2.heap.size := hx2
    have hg3 : w2.heap.size < w3.heap.size := hx4
    clear own1 own2 hx1 hx2 hx3 hx4 hx5 hx6 hb2 hb3 hb4
    generalize w1.heap.size = g1 at *
    generalize w2.heap.size = g2 at *
    generalize w3.heap.size = g3 at *
    go_loopw [8] (fun i wr => ∃ k : Nat, k ≤ l.length ∧ i = .int .i64 k ∧ Below w.heap.size w wr ∧
        Own 1 encInt 3 wr w.heap.size (.slice (some ⟨g1, 0, none⟩) l.length l.length) (List.replicate l.length (0 : Int)) ∧
        Own 1 encBool 4 wr w.heap.size (.slice (some ⟨g2, 0, none⟩) l.length l.length) (List.replicate k true ++ List.replicate (l.length - k) false) ∧
        Own 2 encInt2 27 wr w.heap.size (.slice (some ⟨g3, 0, none⟩) l.length l.length) ((l.take k).map (fun q => (q.1, (1000 : Int))) ++ List.replicate (l.length - k) (0, 0)))
      (fun i _ => l.length - (intOf i).toNat)
    case atStart => exact ⟨0, by omega, rfl, hb5, own1', by simpa using own2', by simpa using own3⟩
    case round =>
      obtain ⟨k, hk, rfl, hnx, o1, o2, o3⟩ := hrel
      by_cases hlt : k < l.length
      · obtain ⟨b0, off, wt, cp, rfl, hbw, hlk, c0, c1⟩ := (hs.later hnx (Nat.le_refl _)).int2 hlt
        have f1 : (0 : Int) ≤ (k : Int) ∧ (k : Int) < (l.length : Int) := by omega
        obtain ⟨f1, f2⟩ := f1
        have f3 : b0 < w.heap.size := by
          obtain ⟨_, _, _, _, e1, hh, _⟩ := hs.int2 hlt
          cases e1; exact hh
        have f4 : b0 < g2 := by omega
        have w0' : (List.replicate k true ++ List.replicate (l.length - k) false)[k]? = some false := mid_get (by simp) (by omega)
        have w1' : ((l.take k).map (fun q => (q.1, (1000 : Int))) ++ List.replicate (l.length - k) ((0 : Int), (0 : Int)))[k]? = some (0, 0) := mid_get (by simp; omega) (by omega)
        have w2' : (List.replicate k true ++ List.replicate (l.length - k) false).set k true = List.replicate (k + 1) true ++ List.replicate (l.length - (k + 1)) false := by
          rw [mid_set (by simp) (by omega), List.replicate_succ' (n := k)]; congr 1
        have w3' : ((l.take k).map (fun q => (q.1, (1000 : Int))) ++ List.replicate (l.length - k) ((0 : Int), (0 : Int))).set k (wt, 1000) = (l.take (k + 1)).map (fun q => (q.1, (1000 : Int))) ++ List.replicate (l.length - (k + 1)) (0, 0) := by
          have hx : l[k] = (wt, cp) := (List.getElem?_eq_some_iff.1 hlk).2
          rw [mid_set (by simp; omega) (by omega), List.take_succ_eq_append_getElem hlt, List.map_append, hx]; rfl
        have d0 := o2.cellAt (j := 0) encBool_len w0' rfl
        have d1 := o3.cellAt (j := 0) encInt2_len w1' rfl
        have d2 := o3.cellAt (j := 1) encInt2_len w1' rfl
        simp only [Nat.mul_one, Nat.add_zero] at d0 d1
        have z0 := o2.frozenAt k
        have z1 := o3.frozenAt (k * 2)
        have z2 := o3.frozenAt (k * 2 + 1)
        have W0 := hide w0'; have W1 := hide w1'; have W2 := hide w2'; have W3 := hide w3'
        clear w0' w1' w2' w3' hlk
        have ne12 : g1 ≠ g2 ∧ g1 ≠ g3 ∧ g2 ≠ g3 := by omega
        have NE := hide ne12; clear ne12
        go_wp2
        go_roundw
        case rel =>
          have a1 := ((o1.setOther (a := ⟨g2, k, none⟩) (by intro e; cases e; exact NE.out.1 rfl) (.bool true)).setOther (a := ⟨g3, k * 2, none⟩) (by intro e; cases e; exact NE.out.2.1 rfl) (.int .i64 wt)).setOther (a := ⟨g3, k * 2 + 1, none⟩) (by intro e; cases e; exact NE.out.2.1 rfl) (.int .i64 1000)
          have b1 := o2.set' (j := 0) (y := true) (u := .bool true) encBool_len W0.out (by decide) rfl
          simp only [Nat.mul_one, Nat.add_zero] at b1
          have b2 := (b1.setOther (a := ⟨g3, k * 2, none⟩) (by intro e; cases e; exact NE.out.2.2 rfl) (.int .i64 wt)).setOther (a := ⟨g3, k * 2 + 1, none⟩) (by intro e; cases e; exact NE.out.2.2 rfl) (.int .i64 1000)
          have c1 := (o3.setOther (a := ⟨g2, k, none⟩) (by intro e; cases e; exact NE.out.2.2 rfl) (.bool true)).set' (j := 0) (y := (wt, 0)) (u := .int .i64 wt) encInt2_len W1.out (by decide) rfl
          have hlt' := (List.getElem?_eq_some_iff.1 W1.out).1
          have c2 := c1.set' (k := k) (j := 1) (x := (wt, 0)) (y := (wt, 1000)) (u := .int .i64 1000) encInt2_len (by rw [List.getElem?_set_self hlt']) (by decide) rfl
          simp only [Nat.add_zero, List.set_set] at c2
          rw [W2.out] at b2
          rw [W3.out] at c2
          exact ⟨k + 1, by omega, by go_num, ((hnx.setCell (p := ⟨g2, k, none⟩) (by show _ ≤ g2; omega) _).setCell (p := ⟨g3, k * 2, none⟩) (by show _ ≤ g3; omega) _).setCell (p := ⟨g3, k * 2 + 1, none⟩) (by show _ ≤ g3; omega) _, a1, b2, c2⟩
        case measure => simp [intOf]; omega
      · have hkl : k = l.length := by omega
        subst hkl
        have ob : Own 2 encInt2 27 wr w.heap.size (.slice (some ⟨g3, 0, none⟩) l.length l.length) (big l) := by simpa [big] using o3
        have ow : Own 1 encBool 4 wr w.heap.size (.slice (some ⟨g2, 0, none⟩) l.length l.length) (List.replicate l.length true) := by simpa using o2
        clear o2 o3 hk
        have hm63 := i64_and63 many
        go_wp2
        have hr63 : (0 : Int) ≤ many % 64 ∧ many % 64 ≤ 63 := by omega
        obtain ⟨hr1, hr2⟩ := hr63
        go_loopw [9] (fun i wr => ∃ (n : Nat) (hh : List Int), (n : Int) ≤ many % 64 ∧ i = .int .i64 n ∧ Below w.heap.size w wr ∧ hh.length = l.length ∧ (∀ x ∈ hh, 0 ≤ x ∧ x ≤ n) ∧ Fair l hh ∧
            Own 1 encInt 3 wr w.heap.size (.slice (some ⟨g1, 0, none⟩) l.length l.length) hh ∧
            Own 1 encBool 4 wr w.heap.size (.slice (some ⟨g2, 0, none⟩) l.length l.length) (List.replicate l.length true) ∧
            Own 2 encInt2 27 wr w.heap.size (.slice (some ⟨g3, 0, none⟩) l.length l.length) (big l))
          (fun i _ => 64 - (intOf i).toNat)
        case atStart => exact ⟨0, List.replicate l.length 0, by omega, rfl, hnx, by simp, fun x hx => by simp at hx; omega, fair_zero (fun q h => (q9 q h).1) _, o1, ow, ob⟩
        case round =>
          clear hnx o1 ow ob
          obtain ⟨n, hh, hn, rfl, hnx, hhl, hhb, hF, o1, o2, o3⟩ := hrel
          by_cases hlt : (n : Int) < many % 64
          · have hbest := pick_best (l := big l) (has := hh) (wants := List.replicate l.length true) (fun q h => by
              obtain ⟨q0, h0, rfl⟩ := List.mem_map.1 h
              exact (q9 q0 h0).1) l.length
            have HBEST := hide hbest; clear hbest
            have HF := hide hF; clear hF
            have HL := hide hhl; clear hhl
            have e1 : Own 1 encInt 3 wr w.heap.size (.slice (some ⟨g1, 0, none⟩) hh.length l.length) hh := by rw [HL.out]; exact o1
            have e2 : Own 1 encBool 4 wr w.heap.size (.slice (some ⟨g2, 0, none⟩) (List.replicate l.length true).length l.length) (List.replicate l.length true) := by rw [List.length_replicate]; exact o2
            have hbl : (big l).length = l.length := by simp [big]
            have e3 : Own 2 encInt2 27 wr w.heap.size (.slice (some ⟨g3, 0, none⟩) (big l).length l.length) (big l) := by rw [hbl]; exact o3
            have C := Pick_any (some ⟨g3, 0, none⟩) (some ⟨g1, 0, none⟩) (some ⟨g2, 0, none⟩) l.length l.length l.length (big l) hh (List.replicate l.length true) wr (by omega) (by have := HL.out; omega) (by simp; omega)
              (e3.sl encInt2_len) (e1.sl encInt_len) (e2.sl encBool_len) (fun q h => by
                obtain ⟨q0, h0, rfl⟩ := List.mem_map.1 h
                have := q9 q0 h0; simp only; omega) (fun x hx => by have := hhb x hx; omega)
            rw [hbl, HL.out, List.length_replicate] at C
            clear e1 e2 e3 hbl
            have HC := hide C; clear C
            go_wp2_with fail
            refine HC.out.mono ?_
            rintro e w5 ⟨rfl, hb6⟩
            clear HC
            have hb7 := hnx.trans (hb6.mono hnx.size)
            have p1 := o1.later hb6
            have p2 := o2.later hb6
            have p3 := o3.later hb6
            clear o1 o2 o3 hnx hb6
            rcases HBEST.out with ⟨hbv, hno⟩ | ⟨m, y, v, d, hbv, hml, em, hall⟩
            · exfalso
              have hl0 : 0 < hh.length := by have := HL.out; omega
              obtain ⟨x0, hx0⟩ : ∃ x0, hh[0]? = some x0 := ⟨hh[0], by simp [hl0]⟩
              obtain ⟨⟨a0, c0⟩, hl00⟩ : ∃ q, l[0]? = some q := ⟨l[0], List.getElem?_eq_getElem (by omega)⟩
              have := hhb x0 (List.mem_of_getElem? hx0)
              exact hno 0 x0 a0 1000 (by omega) ⟨hx0, big_get hl00, by rw [List.getElem?_replicate, if_pos (by omega)], by omega⟩
            · obtain ⟨⟨v', c'⟩, hlm0⟩ : ∃ q, l[m]? = some q := ⟨l[m], by simp [hml]⟩
              have hve := em.eb
              rw [big_get hlm0] at hve; cases hve
              have hym := em.ea
              have hyb := hhb y (List.mem_of_getElem? hym)
              have hF' := fair_set (fun q h => (q9 q h).1) HF.out hym hlm0 (fun j x b c hx hb => hall j x b 1000 (by have := HL.out; have := (List.getElem?_eq_some_iff.1 hx).1; omega) ⟨hx, big_get hb, by
                rw [List.getElem?_replicate, if_pos (by have := HL.out; have := (List.getElem?_eq_some_iff.1 hx).1; omega)], by have := hhb x (List.mem_of_getElem? hx); omega⟩)
              have hhb' : ∀ x ∈ hh.set m (y + 1), 0 ≤ x ∧ x ≤ (n : Int) + 1 := by
                intro x hx
                rcases List.mem_or_eq_of_mem_set hx with h | h
                · have := hhb x h; omega
                · omega
              have hl' : (hh.set m (y + 1)).length = l.length := by rw [List.length_set]; exact HL.out
              have dc := p1.cellAt (j := 0) encInt_len hym rfl
              have dz := p1.frozenAt m
              have p1' := p1.set' (j := 0) (y := y + 1) (u := .int .i64 (y + 1)) encInt_len hym (by decide) rfl
              simp only [Nat.mul_one, Nat.add_zero] at dc p1'
              have p2' := p2.setOther (a := ⟨g1, m, none⟩) (by intro e; cases e; omega) (.int .i64 (y + 1))
              have p3' := p3.setOther (a := ⟨g1, m, none⟩) (by intro e; cases e; omega) (.int .i64 (y + 1))
              rw [hbv]
              clear hbv HBEST hall em HF hhb hym hlm0 p1 p2 p3
              generalize hh.set m (y + 1) = hx at *
              have HF := hide hF'; have HL2 := hide hl'; clear hF' hl' HL
              have g0 : decide (l.length ≤ m) = false := by simp; omega
              have g4 : (0 : Int) ≤ (m : Int) ∧ (m : Int) < (l.length : Int) := by omega
              obtain ⟨g4, g5⟩ := g4
              have hb8 := hb7.setCell (p := ⟨g1, m, none⟩) (by show _ ≤ g1; omega) (.int .i64 (y + 1))
              go_wp2
              go_loopw [11] (fun i wr => ∃ k : Nat, k ≤ l.length ∧ i = .int .i64 k ∧ Below w.heap.size w wr ∧
                  Own 1 encInt 3 wr w.heap.size (.slice (some ⟨g1, 0, none⟩) l.length l.length) hx ∧
                  Own 1 encBool 4 wr w.heap.size (.slice (some ⟨g2, 0, none⟩) l.length l.length) (List.replicate l.length true) ∧
                  Own 2 encInt2 27 wr w.heap.size (.slice (some ⟨g3, 0, none⟩) l.length l.length) (big l)) (fun i _ => l.length - (intOf i).toNat)
              case atStart => exact ⟨0, by omega, rfl, hb8, p1', p2', p3'⟩
              case round =>
                clear hb7 hb8 p1' p2' p3' dc dz
                obtain ⟨i, hi, rfl, hnx, o1, o2, o3⟩ := hrel
                by_cases hil : i < l.length
                · obtain ⟨wo, rfl⟩ : ∃ wo : World, wo = wr := ⟨_, rfl⟩
                  go_wp2
                  go_loopw [12] (fun j wr => ∃ k : Nat, k ≤ l.length ∧ j = .int .i64 k ∧ Below w.heap.size w wr ∧
                      Own 1 encInt 3 wr w.heap.size (.slice (some ⟨g1, 0, none⟩) l.length l.length) hx ∧
                      Own 1 encBool 4 wr w.heap.size (.slice (some ⟨g2, 0, none⟩) l.length l.length) (List.replicate l.length true) ∧
                      Own 2 encInt2 27 wr w.heap.size (.slice (some ⟨g3, 0, none⟩) l.length l.length) (big l)) (fun j _ => l.length - (intOf j).toNat)
                  case atStart => exact ⟨0, by omega, rfl, hnx, o1, o2, o3⟩
                  case round =>
                    clear hnx o1 o2 o3
                    obtain ⟨j, hj, rfl, hnx, o1, o2, o3⟩ := hrel
                    by_cases hjl : j < l.length
                    · obtain ⟨b0, off, wi, ci, rfl, _, hli, d0, d1⟩ := (hs.later hnx (Nat.le_refl _)).int2 hil
                      obtain ⟨_, _, wj, cj, e1, _, hlj, d2, d3⟩ := (hs.later hnx (Nat.le_refl _)).int2 hjl
                      cases e1
                      obtain ⟨xi, hxi⟩ : ∃ x, hx[i]? = some x := ⟨hx[i]'(by rw [HL2.out]; exact hil), List.getElem?_eq_getElem _⟩
                      obtain ⟨xj, hxj⟩ : ∃ x, hx[j]? = some x := ⟨hx[j]'(by rw [HL2.out]; exact hjl), List.getElem?_eq_getElem _⟩
                      have hf := HF.out i j xi xj wi wj ci cj hxi hxj hli hlj
                      have hf1 : decide (xj * wi < (xi - 1) * wj) = false := by simp; omega
                      have bi := hhb' xi (List.mem_of_getElem? hxi)
                      have bj := hhb' xj (List.mem_of_getElem? hxj)
                      have qi := q9 _ (List.mem_of_getElem? hli)
                      have qj := q9 _ (List.mem_of_getElem? hlj)
                      have z1 := o1.cellAt (j := 0) encInt_len hxi rfl
                      have z2 := o1.cellAt (j := 0) encInt_len hxj rfl
                      simp only [Nat.mul_one, Nat.add_zero] at z1 z2
                      have n64 : (n : Int) + 1 ≤ 64 := by omega
                      have kb1 := mulb (x := xj) (v := wi) (by omega) ⟨by omega, qi.2.1⟩
                      have kb2 : -9 ≤ (xi - 1) * wj ∧ (xi - 1) * wj ≤ 9000 := by
                        have e1 := Int.mul_le_mul_of_nonneg_right (show -1 ≤ xi - 1 by omega) (show (0 : Int) ≤ wj by omega)
                        have e2 := Int.mul_le_mul_of_nonneg_right (show xi - 1 ≤ 64 by omega) (show (0 : Int) ≤ wj by omega)
                        omega
                      have f1 : (0 : Int) ≤ (i : Int) ∧ (i : Int) < (l.length : Int) ∧ (0 : Int) ≤ (j : Int) ∧ (j : Int) < (l.length : Int) := by omega
                      obtain ⟨f1, f2, f3, f4⟩ := f1
                      clear hf hli hlj hxi hxj
                      go_wp2
                      go_quiet (fail)
                      go_wp2
                      go_roundw
                      case rel => exact ⟨j+1, by omega, by go_num, below_drewN hnx _, o1.drewN _, o2.drewN _, o3.drewN _⟩
                      case measure => simp [intOf]; omega
                    · go_wp2
                      go_roundw
                      case rel => exact ⟨i+1, by omega, by go_num, hnx, o1, o2, o3⟩
                      case measure => simp [intOf]; omega
                · go_wp2
                  go_roundw
                  case rel => exact ⟨n+1, hx, by omega, by go_num, hnx, HL2.out, fun x hx => by have := hhb' x hx; omega, HF.out, o1, o2, o3⟩
                  case measure => simp [intOf]; omega
          · go_wp2
            go_ret
            exact ⟨rfl, hnx⟩
  · rw [errV_pos hq]
    clear hq
    go_wp2
    go_ret
    exact ⟨rfl, hb2⟩
set_option maxRecDepth 100000 in
theorem TopShare_lifted (os : Os) (started : os.Started) (H : Type) (enc : TypeId × Value → H) :
    ReturnsInHanded {} Try.checked os 4 .any (Rows.topShareSpec.pre6 enc Try.prog Try.f4 Rows.topShareRow.domain false) (Rows.topShareSpec.post enc Try.prog Try.f4 false true false false) := by
  refine returnsInHanded_of_change (C := Try.checked) own started (by kernel_rfl) Try.func4
    (ChangeSpec.witness6 (enc := enc) (C := Try.checked) false ⟨#[], #[.slice none 0 0, .int .i64 0], []⟩ 8 (by kernel_rfl) (by kernel_rfl) (by kernel_rfl) (by kernel_rfl)) ?_
  intro W base args ds gs before hval0 hW hcnd _
  have hval : ∀ (j : Nat) t v, Try.f4.params[j]? = some t → args[j]? = some v → Value.okWide Try.prog W .any base t v := hval0
  have hW' := hW
  obtain ⟨p, q, hA0, hV, rfl, hfz, hnd⟩ := hW
  have hA : DataW.TrodAll enc Try.prog W 0 (fun _ => true) true Try.f4.params.toList args.toList ds p := hA0
  rw [Try.params4] at hA hval
  obtain ⟨v0, vs0, d0, ds0, p0, q0, hargs, rfl, rfl, h0, r0⟩ := trodAll_cons hA
  obtain ⟨v1, vs1, d1, ds1, p1, q1, rfl, rfl, rfl, h1, r1⟩ := trodAll_cons r0
  obtain ⟨rfl, rfl, rfl⟩ := trodAll_nil r1
  obtain rfl : args = #[v0, v1] := by cases args; simp_all
  obtain ⟨rfl, rfl⟩ := trodVars_none hV
  have lt0 : ∀ x ∈ p0, x.block < W.heap.size := by obtain ⟨m, hm⟩ := h0; exact DataW.trod_lt m _ _ _ hm
  have k0 := hval 0 22 v0 rfl rfl
  have g0 := h0
  have lt1 : ∀ x ∈ p1, x.block < W.heap.size := by obtain ⟨m, hm⟩ := h1; exact DataW.trod_lt m _ _ _ hm
  have k1 := hval 1 3 v1 rfl rfl
  have g1 := h1
  clear hA0 hval0
  obtain ⟨ao, ca, l, rfl, hs0, hm0, _⟩ := open_sl Try.underlying22 cells_queue (by decide) el_queue (okWide_slice Try.underlying22 k0) h0
  obtain ⟨many, rfl, rfl, rfl, _⟩ := open_int Try.underlying3 k1 h1
  refine (TopShare_walk ao ca l many W hm0 hs0).mono fun e W' ⟨he, bel⟩ => ?_
  subst he
  exact ⟨_, rfl, _, _, _, [], _, [], hW', trodAll_mk1 (shut_bool Try.underlying4 _), (trodAll_cons_mk (Below.trod laidOut (by kernel_rfl) (of_decide_eq_true (by kernel_rfl)) g0 bel lt0) (trodAll_cons_mk (Below.trod laidOut (by kernel_rfl) (of_decide_eq_true (by kernel_rfl)) g1 bel lt1) trodAll_mk0)), rfl, bel.frame _, fun h => by cases h⟩

theorem TopShare_holds : Rows.TopShareSaid :=
  OpenClaim.holds_of_wide 4 Try.f4 rfl rfl rfl rfl rfl rfl rfl ⟨rfl, rfl, rfl, rfl, rfl⟩ rfl rfl rfl rfl rfl (by kernel_rfl) Try.func4 (by kernel_rfl)
    (of_decide_eq_true (by kernel_rfl)) (by unfold Func.isWrapper; first | (rw [if_pos (by decide +kernel)]; kernel_rfl) | (rw [if_neg (by decide +kernel)]; exact ⟨rfl, rfl⟩))
    (fun os started H enc _ => TopShare_lifted os started H enc)
#print axioms TopShare_holds
end Go.Proofs.Ytllibbdgnjcchac
