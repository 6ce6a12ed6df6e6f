/- 'OrderSays' returns true for every input and leaves its arguments as they were; no condition. -/
import Derived.Test.YtidhjpjeehoglaaRows2
import Derived.Test.YtidhjpjeehoglaaSort7
namespace Go.Proofs.Ytidhjpjeehoglaa
open Go.RowKit Go.ChangeShapes Go.WideShapes Go.ChangeAt

theorem lightPairs_len {l : List Pr} {m : Int} (h : lightPairs l m = true) : (l.length : Int) ≤ m := by
  simp only [lightPairs, Bool.and_eq_true, decide_eq_true_eq] at h; exact h.1
theorem rises_rise {l : List Pr} (h : rises l = true) : Rise l := by
  have hadj : ∀ (i : Nat) x y, l[i]? = some x → l[i + 1]? = some y → klt y x = false := by
    intro i x y hx hy
    cases hk : klt y x
    · rfl
    · rw [upTo_bad hx hy hk] at h; cases h
  refine List.pairwise_iff_getElem.2 fun i j hi hj hij => ?_
  have key : ∀ d, ∀ (hj : i + 1 + d < l.length), klt l[i + 1 + d] l[i] = false := by
    intro d
    induction d with
    | zero => intro hj; exact hadj i _ _ (List.getElem?_eq_getElem hi) (List.getElem?_eq_getElem hj)
    | succ d ih =>
      intro hj
      exact kle_trans (ih (by omega)) (hadj (i + 1 + d) _ _ (List.getElem?_eq_getElem (by omega)) (List.getElem?_eq_getElem hj))
  have := key (j - (i + 1)) (by omega)
  simpa [show i + 1 + (j - (i + 1)) = j by omega] using this
set_option maxHeartbeats 1000000 in
theorem orders_any (w : World) : Calls Try.prog 19 #[] w fun e w' => e = .returned (.bool true) ∧ Below w.heap.size w w' := by
  go_enter Try.func19, Try.ntmps19
  go_wp2_with fail
  refine (Sort_any (some ⟨w.heap.size, 0, none⟩) 2 [(⟨#[98]⟩, 0), (⟨#[97]⟩, 0)] _ (by decide) ?_).mono ?_
  · exact Sl.lit (fun _ => rfl) (heap_new _ _) rfl
  · rintro e w1 ⟨v, rfl, hown, hb1⟩
    have hg : srt [((⟨#[98]⟩ : ByteArray), (0 : Int)), (⟨#[97]⟩, 0)] = [(⟨#[97]⟩, 0), (⟨#[98]⟩, 0)] := by decide +kernel
    rw [hg] at hown
    obtain ⟨g, cap, rfl, hgb, hgw, _, _⟩ := hown.addr (by decide)
    obtain ⟨_, _, _, _, e1, _, e2, d0, d1⟩ := (hown.sl encP_len).pair (k := 0) (by decide)
    cases e1
    cases e2
    simp only [Nat.zero_add, Nat.zero_mul] at d0 d1
    have HR := hide (orderRises_any (some ⟨g, 0, none⟩) cap [(⟨#[97]⟩, 0), (⟨#[98]⟩, 0)] w1 (by decide) (hown.sl encP_len))
    rw [show rises [((⟨#[97]⟩ : ByteArray), (0 : Int)), (⟨#[98]⟩, 0)] = true by decide +kernel] at HR
    have hb : Below w.heap.size w w1 := ((Below.refl _ _).alloc (Nat.le_refl _) _).trans (hb1.mono (by simp))
    clear hown hb1
    go_wp2_with fail
    refine HR.out.mono ?_
    rintro e w2 ⟨rfl, b2⟩
    go_wp2
    go_ret
    exact ⟨rfl, hb.trans (b2.mono hb.size)⟩

theorem flat_le {ls : List (List Pr)} {n k : Nat} (h : ∀ l ∈ ls, l.length ≤ n) (hk : ls.length ≤ k) : ls.flatten.length ≤ k * n := by
  induction ls generalizing k with
  | nil => simp
  | cons a ls ih =>
    obtain ⟨k, rfl⟩ : ∃ m, k = m + 1 := ⟨k - 1, by simp at hk; omega⟩
    have h1 := ih (fun l hl => h l (List.mem_cons_of_mem _ hl)) (k := k) (by simpa using hk)
    have h2 := h a List.mem_cons_self
    rw [List.flatten_cons, List.length_append, Nat.succ_mul]
    omega
set_option maxRecDepth 100000 in
set_option maxHeartbeats 2000000 in
theorem OrderSays_walk (ao : Option Addr) (cap : Nat) (l : List Pr) (bo : Option Addr) (cb : Nat) (rs : List RowP) (w : World) (hl : l.length ≤ maxLen) (hs : Sl 2 encP w ao l) (hm : rs.length ≤ maxLen) (ht : Sl 1 encRow w bo rs) (hrow : ∀ r ∈ rs, RowOk w r) :
    Calls Try.prog 4 #[.slice ao l.length cap, .slice bo rs.length cb] w fun e w' => e = .returned (.bool true) ∧ Below w.heap.size w w' := by
  have HROW := hide hrow
  clear hrow
  go_enter Try.func4, Try.ntmps4
  go_wp2_with fail
  refine (orders_any _).mono ?_
  rintro e w0 ⟨rfl, hb0⟩
  go_wp2_with fail
  refine (LightPairs_any _ _ l _ _ hl (hs.later hb0 (Nat.le_refl _))).mono ?_
  rintro e w1 ⟨rfl, rfl⟩
  cases hlp : lightPairs l 60
  · clear hlp
    go_wp2
    go_ret
    exact ⟨rfl, hb0⟩
  · have hl60 := lightPairs_len hlp
    clear hlp
    by_cases h6 : rs.length ≤ 6
    · have f6 : decide (6 < rs.length) = false := by simp; omega
      have f6' : decide (6 < (rs.length : Int)) = false := by simp; omega
      have hs0 := hs.later hb0 (Nat.le_refl _)
      go_wp2_with fail
      refine (Sort_any ao cap l _ (by omega) hs0).mono ?_
      rintro e w1 ⟨v1, rfl, o1, b1⟩
      have hb1 := hb0.trans (b1.mono hb0.size)
      have O1 := hide o1
      clear o1 hs0
      go_wp2_with fail
      refine (RefSorted_any ao cap l _ (by omega) (hs.later hb1 (Nat.le_refl _))).mono ?_
      rintro e w2 ⟨v2, rfl, o2, b2⟩
      have hb2 := hb1.trans (b2.mono hb1.size)
      obtain ⟨⟨a1, c1, rfl⟩, _⟩ := id O1.out
      obtain ⟨⟨a2, c2, rfl⟩, _⟩ := id o2
      have HP := hide (SamePairs_refl a1 a2 c1 c2 (srt l) w2 (by rw [srt_len]; exact hl) ((O1.out.later b2).sl encP_len) (o2.sl encP_len))
      clear o2 O1
      go_wp2_with fail
      refine HP.out.mono ?_
      rintro e w3 ⟨rfl, b3⟩
      have hb3 := hb2.trans (b3.mono hb2.size)
      clear HP b1 b2 b3
      go_wp2_with fail
      refine (orderRises_any ao cap l _ (by omega) (hs.later hb3 (Nat.le_refl _))).mono ?_
      rintro e w4 ⟨rfl, b4⟩
      have hb4 := hb3.trans (b4.mono hb3.size)
      go_wp2_with fail
      refine (rising_any ao cap l _ hl (hs.later hb4 (Nat.le_refl _))).mono ?_
      rintro e w5 ⟨rfl, b5⟩
      have hb5 := hb4.trans (b5.mono hb4.size)
      clear hb1 hb2 hb3 hb4 b4 b5
      have hrr : (rises l != rises l) = false := by simp
      go_wp2
      go_loopw [6] (fun i wr => ∃ k : Nat, k ≤ rs.length ∧ i = .int .i64 k ∧ Hid (∀ i r, i < k → rs[i]? = some r → r.2.2.length ≤ 40 ∧ rises r.2.2 = true) ∧ Below w.heap.size w wr) (fun i _ => rs.length - (intOf i).toNat)
      case atStart => exact ⟨0, by omega, by go_num, fun i r h => by omega, hb5⟩
      case round =>
        obtain ⟨k, hk, rfl, HK, hbl⟩ := hrel
        by_cases hlt : k < rs.length
        · obtain ⟨b, off, ra, rc, rl, rfl, hbw, hlk, c0⟩ := (ht.later hbl (Nat.le_refl _)).row hlt
          have hok := (HROW.out _ (List.mem_of_getElem? hlk)).later hbl (Nat.le_refl _)
          have HL := hide hlk
          have hrl := hok.len
          have hrs := hok.sl
          dsimp only at hrl hrs
          clear hlk hok
          go_wp2_with fail
          refine (LightPairs_any ra rc rl _ _ hrl hrs).mono ?_
          rintro e w6 ⟨rfl, rfl⟩
          cases hlp : lightPairs rl 40
          · clear hlp
            go_wp2
            go_ret
            exact ⟨rfl, hbl⟩
          · have h40 := lightPairs_len hlp
            clear hlp
            go_wp2_with fail
            refine (rising_any ra rc rl _ hrl hrs).mono ?_
            rintro e w7 ⟨rfl, b7⟩
            have hb7 := hbl.trans (b7.mono hbl.size)
            cases hri : rises rl
            · clear hri
              go_wp2
              go_ret
              exact ⟨rfl, hb7⟩
            · have HRI := hide hri
              clear hri b7 hrs
              go_wp2
              go_roundw
              case rel => exact ⟨k + 1, by omega, by go_num, fun i r hi hr => by
                by_cases e : i = k
                · subst e; rw [HL.out] at hr; cases hr; exact ⟨by show rl.length ≤ 40; omega, HRI.out⟩
                · exact HK.out i r (by omega) hr, hb7⟩
              case measure => (simp [intOf]; try omega)
        · obtain rfl : k = rs.length := by omega
          have hall : ∀ r ∈ rs, r.2.2.length ≤ 40 ∧ rises r.2.2 = true := by
            intro r hr
            obtain ⟨i, hi⟩ := List.getElem?_of_mem hr
            exact HK.out i r (List.getElem?_eq_some_iff.1 hi).1 hi
          have hrise : ∀ l ∈ rowsL rs, Rise l := by
            intro l hl
            obtain ⟨r, hr, rfl⟩ := List.mem_map.1 hl
            exact rises_rise (hall r hr).2
          have htot : (rowsL rs).flatten.length ≤ 6 * 40 := by
            refine flat_le (fun l hl => ?_) (by simpa [rowsL] using h6)
            obtain ⟨r, hr, rfl⟩ := List.mem_map.1 hl
            exact (hall r hr).1
          have HM := hide (Merge_any bo cb rs wr (by omega) (by omega) hrise (ht.later hbl (Nat.le_refl _)) (fun r hr => ((HROW.out r hr).later hbl (Nat.le_refl _)).sl))
          have HTOT := hide htot
          clear HK hall hrise htot
          go_wp2_with fail
          refine HM.out.mono ?_
          rintro e w6 ⟨v1, rfl, o1, b6⟩
          have hb6 := hbl.trans (b6.mono hbl.size)
          have O1 := hide o1
          have HM2 := hide (Merged_any bo cb rs w6 (by omega) (by have h : (rowsL rs).flatten.length ≤ 6 * 40 := HTOT.out; omega) (ht.later hb6 (Nat.le_refl _)) (fun r hr => (HROW.out r hr).later hb6 (Nat.le_refl _)))
          clear o1 HM
          go_wp2_with fail
          refine HM2.out.mono ?_
          rintro e w7 ⟨v2, rfl, o2, b7⟩
          have hb7 := hb6.trans (b7.mono hb6.size)
          obtain ⟨⟨a1, c1, rfl⟩, _⟩ := id O1.out
          obtain ⟨⟨a2, c2, rfl⟩, _⟩ := id o2
          have HP := hide (SamePairs_refl a1 a2 c1 c2 (srt (rowsL rs).flatten) w7 (by rw [srt_len]; have h : (rowsL rs).flatten.length ≤ 6 * 40 := HTOT.out; unfold maxLen; omega) ((O1.out.later b7).sl encP_len) (o2.sl encP_len))
          clear o2 O1 HM2
          go_wp2_with fail
          refine HP.out.mono ?_
          rintro e w8 ⟨rfl, b8⟩
          go_wp2
          go_ret
          exact ⟨rfl, hb7.trans (b8.mono hb7.size)⟩
    · have f6 : decide (6 < rs.length) = true := by simp; omega
      have f6' : decide (6 < (rs.length : Int)) = true := by simp; omega
      go_wp2
      go_ret
      exact ⟨rfl, hb0⟩
set_option maxRecDepth 100000 in
theorem OrderSays_lifted (os : Os) (started : os.Started) (H : Type) (enc : TypeId × Value → H) :
    ReturnsInHanded {} Try.checked os 4 .any (Rows.orderSaysSpec.pre6 enc Try.prog Try.f4 Rows.orderSaysRow.domain false) (Rows.orderSaysSpec.post enc Try.prog Try.f4 false true false false) := by
  refine returnsInHanded_of_change (C := Try.checked) own started (by kernel_rfl) Try.func4
    (ChangeSpec.witness6 (enc := enc) (C := Try.checked) false ⟨#[], #[.slice none 0 0, .slice none 0 0], []⟩ 8 (by kernel_rfl) (by kernel_rfl) (by kernel_rfl) (by kernel_rfl)) ?_
  intro W base args ds gs before hval0 hW hcnd _
  have hval : ∀ (j : Nat) t v, Try.f4.params[j]? = some t → args[j]? = some v → Value.okWide Try.prog W .any base t v := hval0
  have hW' := hW
  obtain ⟨p, q, hA0, hV, rfl, hfz, hnd⟩ := hW
  have hA : DataW.TrodAll enc Try.prog W 0 (fun _ => true) true Try.f4.params.toList args.toList ds p := hA0
  rw [Try.params4] at hA hval
  obtain ⟨v0, vs0, d0, ds0, p0, q0, hargs, rfl, rfl, h0, r0⟩ := trodAll_cons hA
  obtain ⟨v1, vs1, d1, ds1, p1, q1, rfl, rfl, rfl, h1, r1⟩ := trodAll_cons r0
  obtain ⟨rfl, rfl, rfl⟩ := trodAll_nil r1
  obtain rfl : args = #[v0, v1] := by cases args; simp_all
  obtain ⟨rfl, rfl⟩ := trodVars_none hV
  have lt0 : ∀ x ∈ p0, x.block < W.heap.size := by obtain ⟨m, hm⟩ := h0; exact DataW.trod_lt m _ _ _ hm
  have k0 := hval 0 53 v0 rfl rfl
  have g0 := h0
  have lt1 : ∀ x ∈ p1, x.block < W.heap.size := by obtain ⟨m, hm⟩ := h1; exact DataW.trod_lt m _ _ _ hm
  have k1 := hval 1 54 v1 rfl rfl
  have g1 := h1
  clear hA0 hval0
  obtain ⟨ao, cap, l, rfl, hs0, hm0, _⟩ := open_sl Try.underlying53 cells_pair (by decide) el_pair (okWide_slice Try.underlying53 k0) h0
  obtain ⟨bo, cb, rs, rfl, hs1, hm1, hr1⟩ := open_sl Try.underlying54 cells_rowp (by decide) el_rowp (okWide_slice Try.underlying54 k1) h1
  refine (OrderSays_walk ao cap l bo cb rs W hm0 hs0 hm1 hs1 (fun r hr => (hr1 r hr).1)).mono fun e W' ⟨he, bel⟩ => ?_
  subst he
  exact ⟨_, rfl, _, _, _, [], _, [], hW', trodAll_mk1 (shut_bool Try.underlying4 _), (trodAll_cons_mk (Below.trod laidOut (by kernel_rfl) (of_decide_eq_true (by kernel_rfl)) g0 bel lt0) (trodAll_cons_mk (Below.trod laidOut (by kernel_rfl) (of_decide_eq_true (by kernel_rfl)) g1 bel lt1) trodAll_mk0)), rfl, bel.frame _, fun h => by cases h⟩

theorem OrderSays_holds : Rows.OrderSaysSaid :=
  OpenClaim.holds_of_wide 4 Try.f4 rfl rfl rfl rfl rfl rfl rfl ⟨rfl, rfl, rfl, rfl, rfl⟩ rfl rfl rfl rfl rfl (by kernel_rfl) Try.func4 (by kernel_rfl)
    (of_decide_eq_true (by kernel_rfl)) (by unfold Func.isWrapper; first | (rw [if_pos (by decide +kernel)]; kernel_rfl) | (rw [if_neg (by decide +kernel)]; exact ⟨rfl, rfl⟩))
    (fun os started H enc _ => OrderSays_lifted os started H enc)
#print axioms OrderSays_holds
end Go.Proofs.Ytidhjpjeehoglaa
