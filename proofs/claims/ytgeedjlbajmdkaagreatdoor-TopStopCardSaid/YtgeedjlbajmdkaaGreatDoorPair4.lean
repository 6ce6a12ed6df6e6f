/- Pairs: their text: the document's, the program's. -/
import Derived.Test.YtgeedjlbajmdkaaGreatDoorDecI
import Derived.Test.YtgeedjlbajmdkaaGreatDoorPair3
import Derived.Lib.QuietBelow
import Derived.Deep.RegionHeld3
set_option linter.unusedSimpArgs false
set_option linter.unusedVariables false
namespace Go.Proofs.YtgeedjlbajmdkaaGreatDoor
open Go.RowKit

theorem lineP_len (p : Pr) (h : -9223372036854775808 ≤ p.2 ∧ p.2 ≤ 9223372036854775807) (hk : p.1.size ≤ 100000) : (lineP p).length ≤ 100043 := by
  have h1 : (Lib.itoa (p.1.size : Int)).length ≤ 20 := itoa_len (by omega) (by omega)
  have h2 : (Lib.itoa p.2).length ≤ 20 := itoa_len h.1 h.2
  unfold lineP
  simp only [List.length_append, List.length_cons, List.length_nil, tl_len]
  omega
theorem textP_len : ∀ (l : List Pr), (∀ p ∈ l, p.1.size ≤ 100000 ∧ -9223372036854775808 ≤ p.2 ∧ p.2 ≤ 9223372036854775807) → (textP l).length ≤ 100043 * l.length
  | [], _ => Nat.le_refl _
  | p :: l, h => by
    have h1 := h p List.mem_cons_self
    have h2 := lineP_len p h1.2 h1.1
    have h3 := textP_len l fun x hx => h x (List.mem_cons_of_mem _ hx)
    rw [show textP (p :: l) = lineP p ++ textP l from rfl, List.length_append, List.length_cons]
    omega
theorem textP_take {l : List Pr} {k : Nat} {p : Pr} (h : l[k]? = some p) : textP (l.take (k + 1)) = textP (l.take k) ++ lineP p := by
  obtain ⟨h1, h2⟩ := List.getElem?_eq_some_iff.1 h
  rw [List.take_succ_eq_append_getElem h1, h2]
  unfold textP
  rw [List.flatMap_append]
  simp
def okP (l : List Pr) : Prop := l.length ≤ 100000 ∧ ∀ p ∈ l, p.1.size ≤ 100000 ∧ -9223372036854775808 ≤ p.2 ∧ p.2 ≤ 9223372036854775807
theorem okP.take {l : List Pr} (h : okP l) (k : Nat) : (textP (l.take k)).length ≤ 10004300000 := by
  have h1 := textP_len (l.take k) fun p hp => h.2 p (List.mem_of_mem_take hp)
  have h2 : (l.take k).length ≤ 100000 := by rw [List.length_take]; have := h.1; omega
  omega
theorem line_eq (A : List UInt8) (x : ByteArray) (y : Int) : ((((((tx A ++ tx (Lib.itoa (x.size : Int))) ++ ⟨#[58]⟩) ++ x) ++ ⟨#[32]⟩) ++ tx (Lib.itoa y)) ++ ⟨#[10]⟩ : ByteArray) = tx (A ++ lineP (x, y)) := by
  apply tl_inj
  rw [tl, tl, tx_list]
  simp [tx, ByteArray.data_append, lineP]
theorem Bd.later {w w' : World} {B b : Nat} {l : List UInt8} (h : Bd w B b l) (k : Below w.heap.size w w') : Bd w' B b l := by
  have key : ∀ {p : Value} {bs : List Value}, Lib.BuilderAt 139 5 B b p bs w → Lib.BuilderAt 139 5 B b p bs w' := by
    intro p bs hp
    have hlt := hp.lt
    obtain ⟨hB, v, hb, hown, hne⟩ := hp
    refine ⟨hB, v, by rw [k.block b hlt]; exact hb, ?_, hne⟩
    obtain ⟨hl, hh⟩ := hown
    refine ⟨hl, ?_⟩
    rcases hh with h | ⟨g, cap, cur, rfl, hbg, hg, r⟩
    · exact .inl h
    · exact .inr ⟨g, cap, cur, rfl, hbg, by rw [k.block g (Array.getElem?_eq_some_iff.1 hg).1]; exact hg, r⟩
  rcases h with h | h
  · exact .inl (key h)
  · exact .inr (key h)
theorem line_eq2 (x : ByteArray) (y : Int) : (((((tx (Lib.itoa (x.size : Int)) ++ ⟨#[58]⟩) ++ x) ++ ⟨#[32]⟩) ++ tx (Lib.itoa y)) ++ ⟨#[10]⟩ : ByteArray).data.toList = lineP (x, y) := by
  simp [tx, ByteArray.data_append, lineP]
set_option maxRecDepth 100000 in
set_option maxHeartbeats 1000000 in
theorem Text_any (ao : Option Addr) (cap : Nat) (l : List Pr) (w : World) (hg : GT w) (hok : okP l) (hs : Sl 2 encP w ao l) :
    Calls Tryz.prog 76 #[.slice ao l.length cap] w fun e w' => e = .returned (.string (tx (textP l))) ∧ Below w.heap.size w w' := by
  have HOK := hide hok
  have HG := hide hg
  have hl := hok.1
  have HBD0 := hide (bd_new w)
  have hb0 : Below w.heap.size w (w.alloc (.cells #[.pointer none, .slice none 0 0] 139)) := (Below.refl _ _).alloc (Nat.le_refl _) _
  clear hok hg
  go_enter Tryz.func76, Tryz.ntmps76
  go_wp2
  go_loopw [8] (fun i wr => ∃ k : Nat, k ≤ l.length ∧ i = .int .i64 k ∧ Hid (Bd wr w.heap.size w.heap.size (textP (l.take k))) ∧ Below w.heap.size w wr) (fun i _ => l.length - (intOf i).toNat)
  case atStart => exact ⟨0, by omega, rfl, HBD0, hb0⟩
  case round =>
    obtain ⟨k, hk, rfl, HBD, hnx⟩ := hrel
    by_cases hlt : k < l.length
    · obtain ⟨b, off, x, y, rfl, hbw, hlk, c0, c1⟩ := (hs.later hnx (Nat.le_refl _)).pair hlt
      have hxy := HOK.out.2 (x, y) (List.mem_of_getElem? hlk)
      dsimp only at hxy
      obtain ⟨hx, hy0, hy1⟩ := hxy
      have hA := HOK.out.take k
      have HT := hide ((textP_take hlk).trans rfl)
      have HE := hide (line_eq2 x y)
      have HG2 := hide (HG.out.later hnx (Nat.le_refl _))
      generalize textP (l.take k) = A at *
      have hD1 : Hid (∀ w' : World, GT w' → Calls Tryz.prog 42 #[.int .i64 (x.size : Int)] w' fun e w'' => e = .returned (.string (tx (Lib.itoa (x.size : Int)))) ∧ Below w'.heap.size w' w'') := fun w' hg => Itoa_any _ w' hg (by omega) (by omega)
      have hD2 : Hid (∀ w' : World, GT w' → Calls Tryz.prog 42 #[.int .i64 y] w' fun e w'' => e = .returned (.string (tx (Lib.itoa y))) ∧ Below w'.heap.size w' w'') := fun w' hg => Itoa_any _ w' hg hy0 hy1
      have z1 : (tx (Lib.itoa (x.size : Int))).size ≤ 20 := by rw [tx_size]; exact itoa_len (by omega) (by omega)
      have z2 : (tx (Lib.itoa y)).size ≤ 20 := by rw [tx_size]; exact itoa_len hy0 hy1
      generalize tx (Lib.itoa (x.size : Int)) = D1 at *
      generalize tx (Lib.itoa y) = D2 at *
      have hls : A.length + (((((D1 ++ ⟨#[58]⟩) ++ x) ++ ⟨#[32]⟩) ++ D2) ++ ⟨#[10]⟩ : ByteArray).size ≤ 140737488355328 := by
        have s1 : (⟨#[58]⟩ : ByteArray).size = 1 := rfl
        have s2 : (⟨#[32]⟩ : ByteArray).size = 1 := rfl
        have s3 : (⟨#[10]⟩ : ByteArray).size = 1 := rfl
        simp only [ByteArray.size_append]
        omega
      have HLS := hide hls
      have n1 : ¬ 9223372036854775807 < D1.size + 1 := by omega
      have n3 : ¬ 9223372036854775807 < D1.size + 1 + x.size := by omega
      have n4 : ¬ 9223372036854775807 < D1.size + 1 + x.size + 1 := by omega
      have n5 : ¬ 9223372036854775807 < D1.size + 1 + x.size + 1 + D2.size := by omega
      have n6 : ¬ 9223372036854775807 < D1.size + 1 + x.size + 1 + D2.size + 1 := by omega
      have f1 : (0 : Int) ≤ (k : Int) ∧ (k : Int) < (l.length : Int) ∧ (0 : Int) ≤ (x.size : Int) ∧ (x.size : Int) ≤ 100000 := by omega
      obtain ⟨f1, f2, f3, f4⟩ := f1
      clear hlk z1 z2 hA hls
      go_upto_region 5 with (fail)
      have hq0 : (wr.alloc (.cells #[.string x, .int .i64 y] 101)).heap[wr.heap.size]? = some (.cells #[.string x, .int .i64 y] 101 (0, 0)) := heap_new _ _
      have d0 : (wr.alloc (.cells #[.string x, .int .i64 y] 101)).cell? ⟨wr.heap.size, 0, none⟩ = some (.string x) := (Bk.new rfl).get (j := 0) rfl
      have d1 : (wr.alloc (.cells #[.string x, .int .i64 y] 101)).cell? ⟨wr.heap.size, 1, none⟩ = some (.int .i64 y) := (Bk.new rfl).get (j := 1) rfl
      have hbw2 : Below wr.heap.size wr (wr.alloc (.cells #[.string x, .int .i64 y] 101)) := (Below.refl _ _).alloc (Nat.le_refl _) _
      have HBD2 := hide (HBD.out.later hbw2)
      have HG3 := hide (HG2.out.later hbw2 (Nat.le_refl _))
      have hnx2 : Below w.heap.size w (wr.alloc (.cells #[.string x, .int .i64 y] 101)) := hnx.trans (hbw2.mono hnx.size)
      have hne : w.heap.size < wr.heap.size := by rcases HBD.out with h | h <;> exact h.lt
      clear hbw2 HBD HG2 HG
      generalize wr.alloc (.cells #[.string x, .int .i64 y] 101) = W at *
      have hws := hnx2.size
      go_region_held3 (fun w' => Below w.heap.size W w' ∧ w'.heap[wr.heap.size]? = some (.cells #[.string x, .int .i64 y] 101 (0, 0)) ∧ w'.cell? ⟨wr.heap.size, 0, none⟩ = some (.string x) ∧ w'.cell? ⟨wr.heap.size, 1, none⟩ = some (.int .i64 y))
        (first
          | exact ⟨(Below.refl _ _).drew, hq0, d0, d1⟩
          | (have h := (by assumption : Below w.heap.size W _ ∧ _ ∧ _ ∧ _); exact ⟨h.1.trans b3, hkp3 _ _ h.2.1 (by omega) (fun c fr e => by injection e with _ e2; revert e2; decide), by rw [Lib.cell_of_heap (hkp3 _ _ h.2.1 (by omega) (fun c fr e => by injection e with _ e2; revert e2; decide))]; rfl, by rw [Lib.cell_of_heap (hkp3 _ _ h.2.1 (by omega) (fun c fr e => by injection e with _ e2; revert e2; decide))]; rfl⟩)
          | (have h := (by assumption : Below w.heap.size W _ ∧ _ ∧ _ ∧ _); exact ⟨h.1.trans (b2.mono (Nat.le_trans hws h.1.size)), by rw [b2.block _ (Array.getElem?_eq_some_iff.1 h.2.1).1]; exact h.2.1, cell_later b2 h.2.2.1, cell_later b2 h.2.2.2⟩)
          | (have h := (by assumption : Below w.heap.size W _ ∧ _ ∧ _ ∧ _); exact ⟨h.1.trans (b1.mono (Nat.le_trans hws h.1.size)), by rw [b1.block _ (Array.getElem?_eq_some_iff.1 h.2.1).1]; exact h.2.1, cell_later b1 h.2.2.1, cell_later b1 h.2.2.2⟩)
          | go_keep)
        (first
          | (go_at_call_of 42 (Value.int IntKind.i64 (x.size : Int)); refine (hD1.out _ (HG3.out.later ((Below.refl _ _).drew) (Nat.le_refl _))).mono ?_; rintro e w1 ⟨rfl, b1⟩)
          | (go_at_call_of 42 (Value.int IntKind.i64 y); refine (hD2.out _ ((HG3.out.later ((Below.refl _ _).drew) (Nat.le_refl _)).later b1 (Nat.le_refl _))).mono ?_; rintro e w2 ⟨rfl, b2⟩)
          | (go_at_call 91; have h := (by assumption : Below w.heap.size W _ ∧ _ ∧ _ ∧ _); refine (bd_write_kept _ _ _ _ _ (((HBD2.out.later ((Below.refl _ _).drew)).later b1).later b2) HLS.out (Nat.le_trans hws h.1.size)).mono ?_; clear h; rintro e w3 ⟨rfl, hbd3, b3, hkp3⟩))
      all_goals
        have h := (by assumption : Below w.heap.size W _ ∧ _ ∧ _ ∧ _)
        have HB := hide (hnx2.trans h.1)
        have HBD3 := hide hbd3
        clear h hbd3 hkp3 hq0 d0 d1 b1 b2 b3
        go_wp2
        go_roundw
        case rel => exact ⟨k + 1, by omega, by go_num, by rw [HT.out, ← HE.out]; exact HBD3, HB.out⟩
        case measure => (simp [intOf]; try omega)
    · have HT : Hid (l.take k = l) := List.take_of_length_le (by omega)
      rw [HT.out] at HBD
      have HS := hide (bd_string _ _ _ wr HBD.out hnx.size)
      clear HBD
      go_wp2_with fail
      refine HS.out.mono ?_
      rintro e w1 ⟨rfl, b1⟩
      have HB := hide (hnx.trans (b1.mono (by omega)))
      clear b1 HS
      go_wp2
      go_ret
      exact ⟨rfl, HB.out⟩
end Go.Proofs.YtgeedjlbajmdkaaGreatDoor
