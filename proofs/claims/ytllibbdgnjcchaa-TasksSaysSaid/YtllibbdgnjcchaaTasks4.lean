/- Package tasks: Lose. -/
import Derived.Test.YtllibbdgnjcchaaTasks3
namespace Go.Proofs.Ytllibbdgnjcchaa
open Go.RowKit

def loseP (ps : List (Int × Int)) (wk : Int) : Nat → List (Int × Int)
  | 0 => ps
  | k + 1 => if ps[k]? = some (2, wk) then (loseP ps wk k).set k (0, 0) else loseP ps wk k
def loseO (ps : List (Int × Int)) (wk : Int) : Nat → List Int
  | 0 => []
  | k + 1 => if ps[k]? = some (2, wk) then loseO ps wk k ++ [(k : Int)] else loseO ps wk k
theorem loseP_len (ps : List (Int × Int)) (wk : Int) (k : Nat) : (loseP ps wk k).length = ps.length := by
  induction k with
  | zero => rfl
  | succ k ih => unfold loseP; split <;> simp [ih]
theorem loseP_get (ps : List (Int × Int)) (wk : Int) (k j : Nat) (h : k ≤ j) : (loseP ps wk k)[j]? = ps[j]? := by
  induction k with
  | zero => rfl
  | succ k ih =>
    unfold loseP; split
    · rw [List.getElem?_set_ne (by omega)]; exact ih (by omega)
    · exact ih (by omega)
theorem loseO_len (ps : List (Int × Int)) (wk : Int) (k : Nat) : (loseO ps wk k).length ≤ k := by
  induction k with
  | zero => exact Nat.le_refl _
  | succ k ih =>
    unfold loseO; split
    · simp; omega
    · omega

set_option maxRecDepth 100000 in
set_option maxHeartbeats 1000000 in
theorem Lose_any (wk : Int) {w : World} {base tb pb sb : Nat} {ps ss : List (Int × Int)} (h : RT w base tb pb sb ps ss) (htb : tb < w.heap.size) (hpb : pb < w.heap.size) (hsb : sb < w.heap.size) :
    Calls Try.prog 44 #[.pointer (some ⟨tb, 0, none⟩), .int .i64 wk] w fun e w' => ∃ v, e = .returned v ∧ Own 1 encInt 3 w' w.heap.size v (loseO ps wk ps.length) ∧ KeptBut (fun q => q = pb) w w' ∧ RT w' base tb pb sb (loseP ps wk ps.length) ss := by
  obtain ⟨i0, hi, hz0, hz1, hz2⟩ := info_parts infoInt
  have c0 := h.c0
  have hlp := h.lp
  have H := hide h; clear h
  go_enter Try.func44, Try.ntmps44
  go_wp2
  go_loopw [5, 12] (fun v i wr => ∃ k : Nat, k ≤ ps.length ∧ i = .int .i64 k ∧ Own 1 encInt 3 wr w.heap.size v (loseO ps wk k) ∧ KeptBut (fun q => q = pb) w wr ∧ RT wr base tb pb sb (loseP ps wk k) ss) (fun _ i _ => ps.length - (intOf i).toNat)
  case atStart => exact ⟨0, by omega, rfl, Own.nil, KeptBut.refl _ _, H.out⟩
  case round =>
    obtain ⟨k, hk, rfl, hown, hkb, hrt⟩ := hrel
    have hsz := hkb.size
    by_cases hlt : k < ps.length
    · obtain ⟨a, b, hab⟩ : ∃ a b, ps[k]? = some (a, b) := ⟨ps[k].1, ps[k].2, by simp [hlt]⟩
      have hab' : (loseP ps wk k)[k]? = some (a, b) := by rw [loseP_get _ _ _ _ (Nat.le_refl _)]; exact hab
      have hll := loseP_len ps wk k
      have hol := loseO_len ps wk k
      have c1 := hrt.c0
      rw [hll] at c1
      obtain ⟨d0, d1, dz, _⟩ := hrt.elem (fold := false) hab'
      have d0' : wr.cell? ⟨pb, k * 2, none⟩ = some (.int .i64 a) := d0
      have d1' : wr.cell? ⟨pb, k * 2 + 1, none⟩ = some (.int .i64 b) := d1
      have z0 : wr.frozen? ⟨pb, k * 2, none⟩ = false := dz _
      have z1 : wr.frozen? ⟨pb, k * 2 + 1, none⟩ = false := dz _
      have hD1 := hrt.d1
      have HR := hide hrt
      have HL := hide hll; have HAB := hide hab; have HAB' := hide hab'
      clear hrt d0 d1 dz hll hab hab'
      by_cases hy : a = 2 ∧ b = wk
      · obtain ⟨rfl, rfl⟩ := hy
        have hP : Hid (loseP ps b (k + 1) = (loseP ps b k).set k (0, 0)) := by show _ = _; rw [loseP, if_pos HAB.out]
        have hO : Hid (loseO ps b (k + 1) = loseO ps b k ++ [(k : Int)]) := by show _ = _; rw [loseO, if_pos HAB.out]
        generalize loseP ps b k = pk at *
        generalize loseO ps b k = ok at *
        have rt1 := (HR.out.set1 (fold := false) (v := 0) HAB'.out).set2 (v := 0) (lst_set HAB'.out)
        rw [set_set.1, set_set.2] at rt1
        have rt2 : RT ((wr.setCell ⟨pb, k * 2, none⟩ (.int .i64 0)).setCell ⟨pb, k * 2 + 1, none⟩ (.int .i64 0)) base tb pb sb (pk.set k (0, 0)) ss := rt1
        have hb := fun q hq => hown.lt q hq
        have ow1 : Own 1 encInt 3 ((wr.setCell ⟨pb, k * 2, none⟩ (.int .i64 0)).setCell ⟨pb, k * 2 + 1, none⟩ (.int .i64 0)) w.heap.size _ ok :=
          (hown.setOther (a := ⟨pb, k * 2, none⟩) (fun e => by have := (hb _ e).1; simp at this; omega) (.int .i64 0)).setOther (a := ⟨pb, k * 2 + 1, none⟩) (fun e => by have := (hb _ e).1; simp at this; omega) (.int .i64 0)
        have kb1 : KeptBut (fun q => q = pb) w (((wr.setCell ⟨pb, k * 2, none⟩ (.int .i64 0)).setCell ⟨pb, k * 2 + 1, none⟩ (.int .i64 0)).alloc (.cells #[.int .i64 k] 3)) :=
          ((hkb.setCell (p := ⟨pb, k * 2, none⟩) rfl _).setCell (p := ⟨pb, k * 2 + 1, none⟩) rfl _).alloc _
        have KB := hide kb1; have RT2 := hide rt2
        clear rt1 rt2 kb1
        go_wp2_with (at_builtin; refine wpList_append_one encInt_len _ _ 23 i0 _ rfl rfl Try.underlying23 hi hz0 hz1 hz2 rfl (by decide) (by decide) (ow1.alloc _) (Below.refl _ _) ?c1 ?c2 rfl (k : Int) ⟨wr.heap.size, 0, none⟩ 1 rfl (news_at ?c3 rfl) ?c4 ?_)
        case c1 => simp; omega
        case c2 => omega
        case c3 => simp
        case c4 => simp [encInt, Value.oneCell']
        intro v' w1 hown1 _ hgr _
        go_wp2
        go_roundw
        case rel =>
          have ltv := fun q hq => (ow1.lt q hq).1
          refine ⟨k+1, by omega, by go_num, by rw [hO.out]; exact hown1, KB.out.grown hgr ltv, ?_⟩
          rw [hP.out]
          refine ((RT2.out).kept (S := fun _ => False) ((KeptBut.refl _ _).alloc _) id id id).kept (KeptBut.of_grown (S := fun q => w.heap.size ≤ q) hgr ltv) (by omega) (by omega) (by omega)
        case measure => simp [intOf]; omega
      · have hP : Hid (loseP ps wk (k + 1) = loseP ps wk k) := by
          show _ = _; rw [loseP, if_neg]; rw [HAB.out]; intro e; cases e; exact hy ⟨rfl, rfl⟩
        have hO : Hid (loseO ps wk (k + 1) = loseO ps wk k) := by
          show _ = _; rw [loseO, if_neg]; rw [HAB.out]; intro e; cases e; exact hy ⟨rfl, rfl⟩
        generalize loseP ps wk k = pk at *
        generalize loseO ps wk k = ok at *
        by_cases ha : a = 2
        · have hbw : ¬ b = wk := fun e => hy ⟨ha, e⟩
          subst ha
          clear hy
          go_wp2
          go_roundw
          case rel => exact ⟨k+1, by omega, by go_num, by rw [hO.out]; exact hown, hkb, by rw [hP.out]; exact HR.out⟩
          case measure => simp [intOf]; omega
        · clear hy
          go_wp2
          go_roundw
          case rel => exact ⟨k+1, by omega, by go_num, by rw [hO.out]; exact hown, hkb, by rw [hP.out]; exact HR.out⟩
          case measure => simp [intOf]; omega
    · go_wp2
      go_ret
      obtain rfl : k = ps.length := by omega
      exact ⟨_, rfl, hown, hkb, hrt⟩
end Go.Proofs.Ytllibbdgnjcchaa
