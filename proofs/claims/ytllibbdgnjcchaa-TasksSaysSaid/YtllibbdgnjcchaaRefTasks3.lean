/- The reference's tasks: Set for waiting and for done. -/
import Derived.Test.YtllibbdgnjcchaaRefTasks2
namespace Go.Proofs.Ytllibbdgnjcchaa
open Go.RowKit

theorem set_same {l : List Int} {k : Nat} {a : Int} (h : l[k]? = some a) : l.set k a = l := by
  apply List.ext_getElem?
  intro j
  by_cases e : k = j
  · subst e; rw [List.getElem?_set_self (List.getElem?_eq_some_iff.1 h).1, h]
  · rw [List.getElem?_set_ne e]

set_option maxHeartbeats 1000000 in
theorem Set0_yes {fold : Bool} {k : Nat} {a wk : Int} {w : World} {base mb pb sb hb : Nat} {P Q W : List Int} (h : RM w base mb pb sb hb P Q W) (hk : (listOf fold P Q)[k]? = some a) :
    Calls Try.prog 40 #[.pointer (some ⟨mb, 0, none⟩), .bool fold, .int .i64 k, .int .i64 0, .int .i64 wk] w fun e w' => e = .returned (.tuple #[.bool (a != 2), .int .i64 0]) ∧ KeptBut (fun q => q = blkOf fold pb sb) w w' ∧
      RM w' base mb pb sb hb (setL fold P k (if a = 1 then 0 else a)) (setR fold Q k (if a = 1 then 0 else a)) W := by
  obtain ⟨d0, dz, hk60, hlt⟩ := h.elem hk
  have HH := hide (Has_any fold k h)
  rw [isThere_yes hlt] at HH
  have HL := hide (List_any fold h)
  have HS := hide (h.set (v := 0) hk)
  have HN : Hid (RM w base mb pb sb hb (setL fold P k a) (setR fold Q k a) W) := by
    have h1 : setL fold P k a = P := by
      cases fold
      · exact set_same hk
      · rfl
    have h2 : setR fold Q k a = Q := by
      cases fold
      · rfl
      · exact set_same hk
    rw [h1, h2]; exact h
  clear h hk
  generalize (listOf fold P Q).length = n at *
  generalize blkOf fold pb sb = bb at *
  by_cases h1 : a = 1
  · subst h1
    simp only [if_true]
    go_enter Try.func40, Try.ntmps40
    go_wp2_with fail
    refine HH.out.mono ?_
    rintro e w1 ⟨rfl, rfl⟩
    go_wp2_with fail
    refine HL.out.mono ?_
    rintro e w1 ⟨rfl, rfl⟩
    go_wp2
    go_ret2
    exact ⟨rfl, (KeptBut.refl (fun q => q = bb) w).setCell (p := ⟨bb, k, none⟩) rfl _, HS.out⟩
  · rw [if_neg h1]
    have e1 : (a == 1) = false := by simpa using h1
    clear h1
    cases h2 : (a != 2)
    · go_enter Try.func40, Try.ntmps40
      go_wp2_with fail
      refine HH.out.mono ?_
      rintro e w1 ⟨rfl, rfl⟩
      go_wp2_with fail
      refine HL.out.mono ?_
      rintro e w1 ⟨rfl, rfl⟩
      go_wp2
      go_ret2
      exact ⟨rfl, KeptBut.refl (fun q => q = bb) w, HN.out⟩
    · go_enter Try.func40, Try.ntmps40
      go_wp2_with fail
      refine HH.out.mono ?_
      rintro e w1 ⟨rfl, rfl⟩
      go_wp2_with fail
      refine HL.out.mono ?_
      rintro e w1 ⟨rfl, rfl⟩
      go_wp2
      go_ret2
      exact ⟨rfl, KeptBut.refl (fun q => q = bb) w, HN.out⟩

/-- who has what, once it is finished -/
def whereOf (fold : Bool) (a : Int) (W : List Int) (k : Nat) (wk : Int) : List Int := if fold || a == 2 then W else W.set k wk
set_option maxHeartbeats 1000000 in
theorem Set2_yes {fold : Bool} {k : Nat} {a wk : Int} {w : World} {base mb pb sb hb : Nat} {P Q W : List Int} (h : RM w base mb pb sb hb P Q W) (hk : (listOf fold P Q)[k]? = some a) :
    Calls Try.prog 40 #[.pointer (some ⟨mb, 0, none⟩), .bool fold, .int .i64 k, .int .i64 2, .int .i64 wk] w fun e w' => e = .returned (.tuple #[.bool (a != 2), .int .i64 0]) ∧ KeptBut (fun q => q = blkOf fold pb sb ∨ q = hb) w w' ∧
      RM w' base mb pb sb hb (setL fold P k 2) (setR fold Q k 2) (whereOf fold a W k wk) := by
  obtain ⟨d0, dz, hk60, hlt⟩ := h.elem hk
  have HH := hide (Has_any fold k h)
  rw [isThere_yes hlt] at HH
  have HL := hide (List_any fold h)
  have HS := hide (h.set (v := 2) hk)
  have H := hide h
  clear h
  cases h2 : (a != 2)
  · have e2 : (a == 2) = true := by simpa [bne] using h2
    have HW : Hid (whereOf fold a W k wk = W) := by show _ = _; unfold whereOf; rw [e2]; simp
    clear hk H
    generalize (listOf fold P Q).length = n at *
    generalize blkOf fold pb sb = bb at *
    cases fold
    · go_enter Try.func40, Try.ntmps40
      go_wp2_with fail
      refine HH.out.mono ?_
      rintro e w1 ⟨rfl, rfl⟩
      go_wp2_with fail
      refine HL.out.mono ?_
      rintro e w1 ⟨rfl, rfl⟩
      go_wp2
      go_ret2
      exact ⟨rfl, (KeptBut.refl (fun q => q = bb ∨ q = hb) w).setCell (p := ⟨bb, k, none⟩) (Or.inl rfl) _, by rw [HW.out]; exact HS.out⟩
    · go_enter Try.func40, Try.ntmps40
      go_wp2_with fail
      refine HH.out.mono ?_
      rintro e w1 ⟨rfl, rfl⟩
      go_wp2_with fail
      refine HL.out.mono ?_
      rintro e w1 ⟨rfl, rfl⟩
      go_wp2
      go_ret2
      exact ⟨rfl, (KeptBut.refl (fun q => q = bb ∨ q = hb) w).setCell (p := ⟨bb, k, none⟩) (Or.inl rfl) _, by rw [HW.out]; exact HS.out⟩
  · have e2 : (a == 2) = false := by simpa [bne] using h2
    cases fold
    · have HW : Hid (whereOf false a W k wk = W.set k wk) := by show _ = _; unfold whereOf; rw [e2]; rfl
      have hk' : P[k]? = some a := hk
      have hkw : k < W.length := by rw [H.out.lw]; exact (List.getElem?_eq_some_iff.1 hk').1
      obtain ⟨u, hu⟩ : ∃ u, W[k]? = some u := ⟨W[k], by simp [hkw]⟩
      have HR := hide (HS.out.setW (v := wk) hu)
      have c2 := H.out.c2
      have hlp := H.out.lp
      have hlw := H.out.lw
      have dh : w.cell? ⟨hb, k, none⟩ = some (.int .i64 u) := by
        have := H.out.ow.cellAt (j := 0) encInt_len hu rfl; simpa using this
      have dhz : w.frozen? ⟨hb, k, none⟩ = false := H.out.ow.frozenAt k
      have db : pb ≠ hb := H.out.d5
      have dm : mb ≠ pb := H.out.d1
      have hlt' : k < P.length := hlt
      rw [hlw] at hkw
      clear hk hk' H HS hu hlt
      show Calls _ _ _ _ fun e w' => e = .returned (.tuple #[.bool true, .int .i64 0]) ∧ KeptBut (fun q => q = pb ∨ q = hb) w w' ∧ _
      have HH' : Hid (Calls Try.prog 60 #[.pointer (some ⟨mb, 0, none⟩), .bool false, .int .i64 k] w fun e w' => e = .returned (.bool true) ∧ w = w') := HH.out
      have HL' : Hid (Calls Try.prog 61 #[.pointer (some ⟨mb, 0, none⟩), .bool false] w fun e w' => e = .returned (.slice (some ⟨pb, 0, none⟩) P.length P.length) ∧ w = w') := HL.out
      have d0' : w.cell? ⟨pb, k, none⟩ = some (.int .i64 a) := d0
      have dz' : w.frozen? ⟨pb, k, none⟩ = false := dz
      clear HH HL d0 dz
      go_enter Try.func40, Try.ntmps40
      go_wp2_with fail
      refine HH'.out.mono ?_
      rintro e w1 ⟨rfl, rfl⟩
      go_wp2_with fail
      refine HL'.out.mono ?_
      rintro e w1 ⟨rfl, rfl⟩
      go_wp2
      go_ret2
      refine ⟨rfl, ((KeptBut.refl (fun q => q = pb ∨ q = hb) w).setCell (p := ⟨pb, k, none⟩) (Or.inl rfl) _).setCell (p := ⟨hb, k, none⟩) (Or.inr rfl) _, ?_⟩
      rw [HW.out]; exact HR.out
    · have HW : Hid (whereOf true a W k wk = W) := by show _ = _; unfold whereOf; rfl
      clear hk H
      generalize (listOf true P Q).length = n at *
      generalize blkOf true pb sb = bb at *
      go_enter Try.func40, Try.ntmps40
      go_wp2_with fail
      refine HH.out.mono ?_
      rintro e w1 ⟨rfl, rfl⟩
      go_wp2_with fail
      refine HL.out.mono ?_
      rintro e w1 ⟨rfl, rfl⟩
      go_wp2
      go_ret2
      exact ⟨rfl, (KeptBut.refl (fun q => q = bb ∨ q = hb) w).setCell (p := ⟨bb, k, none⟩) (Or.inl rfl) _, by rw [HW.out]; exact HS.out⟩
end Go.Proofs.Ytllibbdgnjcchaa
