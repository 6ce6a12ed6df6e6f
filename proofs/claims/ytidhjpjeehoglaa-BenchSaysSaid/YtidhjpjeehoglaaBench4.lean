/- Package bench: Runs, Count, New. -/
import Derived.Test.YtidhjpjeehoglaaBench3
import Derived.RegionTactic
namespace Go.Proofs.Ytidhjpjeehoglaa
open Go.RowKit

theorem Contains_any (ao : Option Addr) (cap : Nat) (l : List SlotV) (ta tk : Int) (tf : Bool) (w : World) (hl : l.length ≤ 1000) (hs : Sl 4 encS w ao l) :
    Calls Try.prog 37 #[.slice ao l.length cap, .agg #[.bool true, .int .i64 ta, .bool tf, .int .i64 tk]] w fun e w' => e = .returned (.bool (inRow (ta, tf, tk) l)) ∧ Below w.heap.size w w' := by
  go_enter Try.func37, Try.ntmps37
  go_wp2_with fail
  refine (IndexSlot_any _ _ l ta tk tf _ hl (hs.later (ba w _) (Nat.le_refl _))).mono ?_
  rintro e w1 ⟨rfl, b1⟩
  have b0 : Below w.heap.size w w1 := (ba w _).trans (b1.mono (by simp))
  go_wp2
  go_ret
  exact ⟨ret_b (firstI_any _ _).symm, b0⟩

/-- the closure that asks a row for a task; the task lies in block pb -/
theorem rowHas (ao : Option Addr) (cap : Nat) (l : List SlotV) (ta tk : Int) (tf : Bool) (pb : Nat) (w : World) (hl : l.length ≤ 1000) (hs : Sl 4 encS w ao l) (hb : Bk w pb [.int .i64 ta, .bool tf, .int .i64 tk]) :
    Calls Try.prog 36 #[.slice ao l.length cap, .pointer (some ⟨pb, 0, none⟩)] w fun e w' => e = .returned (.bool (inRow (ta, tf, tk) l)) ∧ Below w.heap.size w w' := by
  have d0 := hb.get (j := 0) rfl
  have d1 := hb.get (j := 1) rfl
  have d2 := hb.get (j := 2) rfl
  clear hb
  go_enter Try.func36, Try.ntmps36
  go_wp2_with fail
  refine (Contains_any _ _ l ta tk tf _ hl hs).mono ?_
  rintro e w1 ⟨rfl, b1⟩
  go_wp2
  go_ret
  exact ⟨rfl, b1⟩

set_option maxHeartbeats 1000000 in
theorem IndexRows_any (ta tk : Int) (tf : Bool) (pb : Nat) {w : World} {base bb lb cap n : Nat} {rs : List Nat} {T : List (List SlotV)} (h : BT w base bb lb cap n rs T) (hb : Bk w pb [.int .i64 ta, .bool tf, .int .i64 tk]) :
    Calls Try.prog 44 #[.slice (some ⟨lb, 0, none⟩) rs.length cap, .func (.func 36) #[] #[.pointer (some ⟨pb, 0, none⟩)]] w fun e w' => e = .returned (.int .i64 (firstI (inRow (ta, tf, tk)) T)) ∧ Below w.heap.size w w' := by
  have hlt := h.lt
  have hlr := h.lr
  have hln := h.ln
  have HB := hide h; clear h
  have Hlt := hide hlt; clear hlt
  go_enter Try.func44, Try.ntmps44
  go_wp2
  go_loopw [8] (fun i wr => ∃ k : Nat, k ≤ rs.length ∧ i = .int .i64 k ∧ (∀ (i : Nat) x, i < k → T[i]? = some x → inRow (ta, tf, tk) x = false) ∧ Below w.heap.size w wr) (fun i _ => rs.length - (intOf i).toNat)
  case atStart => exact ⟨0, by omega, rfl, fun i x h => absurd h (by omega), Below.refl _ _⟩
  case round =>
    obtain ⟨k, hk, rfl, hok, hnx⟩ := hrel
    have HOK := hide hok; clear hok
    by_cases hlt : k < rs.length
    · obtain ⟨r, row, hr, hT, hrl, c1, hown⟩ := (HB.out.below hnx).row hlt
      have hsl := Own.sl encS_len (by rw [← hrl] at hown; exact hown)
      have HX := rowHas (some ⟨r, 0, none⟩) n row ta tk tf pb wr (by omega) hsl (hb.later hnx)
      rw [hrl] at HX
      have HX := hide HX
      have HT := hide hT
      clear hr hT hrl hown hsl
      go_wp2_with fail
      refine HX.out.mono ?_
      rintro e w1 ⟨rfl, hb1⟩
      cases h0 : inRow (ta, tf, tk) row
      · have H0 := hide h0; clear h0
        go_wp2
        go_roundw
        case rel => exact ⟨k+1, by omega, by go_num, fun i x hi hx => by
            by_cases e : i = k
            · subst e; rw [HT.out] at hx; cases hx; exact H0.out
            · exact HOK.out i x (by omega) hx, hnx.trans (hb1.mono hnx.size)⟩
        case measure => simp [intOf]; omega
      · have H0 := hide h0; clear h0
        go_wp2
        go_ret
        exact ⟨ret_i (firstI_some HT.out H0.out HOK.out), hnx.trans (hb1.mono hnx.size)⟩
    · go_wp2
      go_ret
      exact ⟨ret_i (firstI_none fun i x hi => HOK.out i x (by have := Hlt.out; omega)), hnx⟩

theorem ContainsRows_any (ta tk : Int) (tf : Bool) (pb : Nat) {w : World} {base bb lb cap n : Nat} {rs : List Nat} {T : List (List SlotV)} (h : BT w base bb lb cap n rs T) (hb : Bk w pb [.int .i64 ta, .bool tf, .int .i64 tk]) :
    Calls Try.prog 35 #[.slice (some ⟨lb, 0, none⟩) rs.length cap, .func (.func 36) #[] #[.pointer (some ⟨pb, 0, none⟩)]] w fun e w' => e = .returned (.bool (T.any (inRow (ta, tf, tk)))) ∧ Below w.heap.size w w' := by
  have HX := hide (IndexRows_any ta tk tf pb h hb)
  clear h hb
  go_enter Try.func35, Try.ntmps35
  go_wp2_with fail
  refine HX.out.mono ?_
  rintro e w1 ⟨rfl, b1⟩
  clear HX
  go_wp2
  go_ret
  exact ⟨ret_b (firstI_any _ _).symm, b1⟩
/-- is the task t in some slot? -/
def runsT (t : Int × Bool × Int) (T : List (List SlotV)) : Bool := T.any (inRow t)
set_option maxHeartbeats 1000000 in
theorem Runs_any (ta tk : Int) (tf : Bool) {w : World} {base bb lb cap n : Nat} {rs : List Nat} {T : List (List SlotV)} (h : BT w base bb lb cap n rs T) :
    Calls Try.prog 17 #[.pointer (some ⟨bb, 0, none⟩), .agg #[.int .i64 ta, .bool tf, .int .i64 tk]] w fun e w' => e = .returned (.bool (runsT (ta, tf, tk) T)) ∧ Below w.heap.size w w' := by
  have h1 := h.below (ba w (.cells #[.int .i64 ta, .bool tf, .int .i64 tk] 33))
  have HX := hide (ContainsRows_any ta tk tf w.heap.size h1 (Bk.new rfl))
  have c0 := h1.c0
  clear h h1
  go_enter Try.func17, Try.ntmps17
  go_wp2_with fail
  refine HX.out.mono ?_
  rintro e w1 ⟨rfl, b1⟩
  have b0 : Below w.heap.size w w1 := (ba w _).trans (b1.mono (by simp))
  clear HX
  go_wp2
  go_ret
  exact ⟨rfl, b0⟩

/-- one more at place k, if there is one -/
def bump (l : List Int) (k : Int) : List Int := if 0 ≤ k ∧ k < l.length then l.set k.toNat (l.getD k.toNat 0 + 1) else l
def countIn (wh : Int → Int) (l : List Int) (s : SlotV) : List Int := if s.1 then bump l (wh s.2.1) else l
def countT (wh : Int → Int) (many : Nat) (T : List (List SlotV)) : List Int := T.flatten.foldl (countIn wh) (List.replicate many 0)
theorem bump_len (l : List Int) (k : Int) : (bump l k).length = l.length := by unfold bump; split <;> simp
theorem countIn_len (wh : Int → Int) (l : List Int) (s : SlotV) : (countIn wh l s).length = l.length := by unfold countIn; split; exact bump_len _ _; rfl
theorem fold_len (wh : Int → Int) (S : List SlotV) : ∀ l : List Int, (S.foldl (countIn wh) l).length = l.length := by
  induction S with
  | nil => intro l; rfl
  | cons s S ih => intro l; rw [List.foldl_cons, ih, countIn_len]
theorem bump_le {l : List Int} {k : Int} {n : Int} (h : ∀ x ∈ l, 0 ≤ x ∧ x ≤ n) : ∀ x ∈ bump l k, 0 ≤ x ∧ x ≤ n + 1 := by
  intro x hx
  unfold bump at hx
  split at hx
  · rename_i hk
    rcases List.mem_or_eq_of_mem_set hx with e | e
    · have := h x e; omega
    · have hg : l.getD k.toNat 0 ∈ l := by
        rw [List.getD_eq_getElem?_getD, List.getElem?_eq_getElem (by omega), Option.getD_some]; exact List.getElem_mem _
      have := h _ hg
      omega
  · have := h x hx; omega
theorem countIn_le {wh : Int → Int} {l : List Int} {s : SlotV} {n : Int} (h : ∀ x ∈ l, 0 ≤ x ∧ x ≤ n) : ∀ x ∈ countIn wh l s, 0 ≤ x ∧ x ≤ n + 1 := by
  unfold countIn
  split
  · exact bump_le h
  · intro x hx; have := h x hx; omega
theorem fold_le (wh : Int → Int) (S : List SlotV) : ∀ (l : List Int) (n : Int), (∀ x ∈ l, 0 ≤ x ∧ x ≤ n) → ∀ x ∈ S.foldl (countIn wh) l, 0 ≤ x ∧ x ≤ n + S.length := by
  induction S with
  | nil => intro l n h x hx; have := h x hx; simp; omega
  | cons s S ih =>
    intro l n h x hx
    have := ih _ (n + 1) (countIn_le h) x hx
    simp; omega
/-- what is counted ahead of slot m of row k -/
def upToT (T : List (List SlotV)) (k m : Nat) : List SlotV := (T.take k).flatten ++ ((T[k]?).getD []).take m
theorem upToT_row {T : List (List SlotV)} {k n : Nat} {row : List SlotV} (h : T[k]? = some row) (hn : row.length = n) : upToT T k n = upToT T (k + 1) 0 := by
  unfold upToT
  rw [h, List.take_zero, List.append_nil, List.take_succ_eq_append_getElem (List.getElem?_eq_some_iff.1 h).1, List.flatten_append]
  rw [(List.getElem?_eq_some_iff.1 h).2]
  simp [← hn]
theorem upToT_slot {T : List (List SlotV)} {k m : Nat} {row : List SlotV} {s : SlotV} (h : T[k]? = some row) (hm : row[m]? = some s) : upToT T k (m + 1) = upToT T k m ++ [s] := by
  unfold upToT
  rw [h, Option.getD_some, List.take_succ_eq_append_getElem (List.getElem?_eq_some_iff.1 hm).1, (List.getElem?_eq_some_iff.1 hm).2, List.append_assoc]
def cntUp (wh : Int → Int) (many : Nat) (T : List (List SlotV)) (k m : Nat) : List Int := (upToT T k m).foldl (countIn wh) (List.replicate many 0)
theorem cntUp_row {wh : Int → Int} {many : Nat} {T : List (List SlotV)} {k n : Nat} {row : List SlotV} (h : T[k]? = some row) (hn : row.length = n) : cntUp wh many T k n = cntUp wh many T (k + 1) 0 := by unfold cntUp; rw [upToT_row h hn]
theorem cntUp_slot {wh : Int → Int} {many : Nat} {T : List (List SlotV)} {k m : Nat} {row : List SlotV} {s : SlotV} (h : T[k]? = some row) (hm : row[m]? = some s) : cntUp wh many T k (m + 1) = countIn wh (cntUp wh many T k m) s := by unfold cntUp; rw [upToT_slot h hm, List.foldl_append]; rfl
theorem cntUp_zero (wh : Int → Int) (many : Nat) (T : List (List SlotV)) : cntUp wh many T 0 0 = List.replicate many 0 := by unfold cntUp upToT; simp
theorem cntUp_end (wh : Int → Int) (many : Nat) (T : List (List SlotV)) {k : Nat} (hk : k = T.length) : cntUp wh many T k 0 = countT wh many T := by subst hk; unfold cntUp upToT countT; simp
theorem cntUp_len (wh : Int → Int) (many : Nat) (T : List (List SlotV)) (k m : Nat) : (cntUp wh many T k m).length = many := by unfold cntUp; rw [fold_len]; simp
theorem cntUp_le (wh : Int → Int) (many : Nat) (T : List (List SlotV)) (k m : Nat) : ∀ x ∈ cntUp wh many T k m, 0 ≤ x ∧ x ≤ (upToT T k m).length := by
  intro x hx
  have := fold_le wh (upToT T k m) (List.replicate many 0) 0 (fun y hy => by rw [(List.mem_replicate.1 hy).2]; omega) x hx
  omega
end Go.Proofs.Ytidhjpjeehoglaa
