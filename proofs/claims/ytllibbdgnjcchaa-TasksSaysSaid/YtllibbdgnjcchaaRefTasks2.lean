/- The reference's tasks: NextOf, Set. -/
import Derived.Test.YtllibbdgnjcchaaRefTasks
namespace Go.Proofs.Ytllibbdgnjcchaa
open Go.RowKit

theorem map_get {ps : List (Int × Int)} {k : Nat} {x : Int} (h : (ps.map (·.1))[k]? = some x) : ∃ b, ps[k]? = some (x, b) := by
  rw [List.getElem?_map] at h
  cases hp : ps[k]? with
  | none => rw [hp] at h; cases h
  | some q => rw [hp] at h; cases h; exact ⟨q.2, rfl⟩

set_option maxRecDepth 100000 in
set_option maxHeartbeats 1000000 in
theorem NextOf_any {w : World} {base mb pb sb hb : Nat} {ps ss : List (Int × Int)} {W : List Int} (h : RM w base mb pb sb hb (ps.map (·.1)) (ss.map (·.1)) W) :
    Calls Try.prog 65 #[.pointer (some ⟨mb, 0, none⟩)] w fun e w' => e = .returned (triple (nextT ps ss)) ∧ w = w' := by
  have hlp := h.lp
  have hls := h.ls
  have HO1 := hide (Over_any true h)
  have HO2 := hide (Over_any false h)
  have hs1 := h.op.sl encInt_len
  have hs2 := h.oq.sl encInt_len
  have c0 := h.c0
  have c1 := h.c1
  clear h
  have a1 : allTwo (listOf true (ps.map (·.1)) (ss.map (·.1))) = allDone ss := allTwo_map ss
  have a2 : allTwo (listOf false (ps.map (·.1)) (ss.map (·.1))) = allDone ps := allTwo_map ps
  rw [a1] at HO1
  rw [a2] at HO2
  clear a1 a2
  rw [List.length_map] at hlp hls c0 c1
  go_enter Try.func65, Try.ntmps65
  go_wp2_with fail
  refine HO1.out.mono ?_
  rintro e w1 ⟨rfl, rfl⟩
  cases hd : allDone ss
  · have HD := hide hd; clear hd
    go_wp2
    go_loop [5] (fun i => ∃ k : Nat, k ≤ ps.length ∧ i = .int .i64 k ∧ ∀ (i : Nat) x, i < k → ps[i]? = some x → (x.1 == 0) = false) (fun i => ps.length - (intOf i).toNat)
    case atStart => exact ⟨0, by omega, rfl, fun i x h => absurd h (by omega)⟩
    case round =>
      obtain ⟨k, hk, rfl, hok⟩ := hrel
      have HOK := hide hok; clear hok
      by_cases hlt : k < ps.length
      · obtain ⟨_, _, x, e1, _, hlk, d0⟩ := hs1.int (k := k) (by rw [List.length_map]; exact hlt)
        cases e1
        rw [Nat.zero_add] at d0
        obtain ⟨b, hb'⟩ := map_get hlk
        have Hlk := hide hb'; clear hlk hb'
        by_cases hx : x = 0
        · subst hx
          go_wp2
          go_ret3
          refine ⟨?_, rfl⟩
          have hf : firstW ps = k := firstW_some Hlk.out HOK.out
          have hr : triple (nextT ps ss) = .tuple #[.bool false, .int .i64 k, .bool true] := by unfold nextT; rw [HD.out, hf]; simp [triple]
          rw [hr]; rfl
        · have e1 : (x == 0) = false := by simpa using hx
          go_wp2
          go_round
          case rel => exact ⟨k+1, by omega, by go_num, fun i z hi hz => by
              by_cases e : i = k
              · subst e; rw [Hlk.out] at hz; cases hz; exact e1
              · exact HOK.out i z (by omega) hz⟩
          case measure => simp [intOf]; omega
      · have hf : firstW ps = -1 := firstW_none fun i x hi => HOK.out i x (by omega)
        have HF := hide hf; clear hf HOK
        go_wp2_with fail
        refine HO2.out.mono ?_
        rintro e w1 ⟨rfl, rfl⟩
        cases hm : allDone ps
        · have HM := hide hm; clear hm
          go_wp2
          go_ret3
          refine ⟨?_, rfl⟩
          have hr : triple (nextT ps ss) = .tuple #[.bool false, .int .i64 0, .bool false] := by unfold nextT; rw [HD.out, HF.out, HM.out]; simp [triple]
          rw [hr]; rfl
        · have HM := hide hm; clear hm
          go_wp2
          go_loop [6] (fun i => ∃ k : Nat, k ≤ ss.length ∧ i = .int .i64 k ∧ ∀ (i : Nat) x, i < k → ss[i]? = some x → (x.1 == 0) = false) (fun i => ss.length - (intOf i).toNat)
          case atStart => exact ⟨0, by omega, rfl, fun i x h => absurd h (by omega)⟩
          case round =>
            obtain ⟨k2, hk2, rfl, hok⟩ := hrel
            have HOK := hide hok; clear hok
            by_cases hlt2 : k2 < ss.length
            · obtain ⟨_, _, x, e1, _, hlk, d0⟩ := hs2.int (k := k2) (by rw [List.length_map]; exact hlt2)
              cases e1
              rw [Nat.zero_add] at d0
              obtain ⟨b, hb'⟩ := map_get hlk
              have Hlk := hide hb'; clear hlk hb'
              by_cases hx : x = 0
              · subst hx
                go_wp2
                go_ret3
                refine ⟨?_, rfl⟩
                have hf : firstW ss = k2 := firstW_some Hlk.out HOK.out
                have hr : triple (nextT ps ss) = .tuple #[.bool true, .int .i64 k2, .bool true] := by
                  unfold nextT; rw [HD.out, if_neg (by simp), HF.out, if_neg (by omega), HM.out, hf, if_neg (by simp)]; rfl
                rw [hr]; rfl
              · have e1 : (x == 0) = false := by simpa using hx
                go_wp2
                go_round
                case rel => exact ⟨k2+1, by omega, by go_num, fun i z hi hz => by
                    by_cases e : i = k2
                    · subst e; rw [Hlk.out] at hz; cases hz; exact e1
                    · exact HOK.out i z (by omega) hz⟩
                case measure => simp [intOf]; omega
            · have hf : firstW ss = -1 := firstW_none fun i x hi => HOK.out i x (by omega)
              have HF2 := hide hf; clear hf HOK
              go_wp2
              go_ret3
              refine ⟨?_, rfl⟩
              have hr : triple (nextT ps ss) = .tuple #[.bool false, .int .i64 0, .bool false] := by unfold nextT; rw [HD.out, HF.out, HF2.out]; simp [triple]
              rw [hr]; rfl
  · have hr : triple (nextT ps ss) = .tuple #[.bool false, .int .i64 0, .bool false] := by unfold nextT; rw [if_pos hd]; rfl
    have Hr := hide hr
    clear hr hd
    go_wp2
    go_ret3
    exact ⟨by rw [Hr.out]; rfl, rfl⟩

def setL (fold : Bool) (P : List Int) (k : Nat) (v : Int) : List Int := if fold then P else P.set k v
def setR (fold : Bool) (Q : List Int) (k : Nat) (v : Int) : List Int := if fold then Q.set k v else Q
theorem RM.elem {w : World} {base mb pb sb hb : Nat} {P Q W : List Int} (h : RM w base mb pb sb hb P Q W) {fold : Bool} {k : Nat} {a : Int} (hk : (listOf fold P Q)[k]? = some a) :
    w.cell? ⟨blkOf fold pb sb, k, none⟩ = some (.int .i64 a) ∧ w.frozen? ⟨blkOf fold pb sb, k, none⟩ = false ∧ k ≤ 60 ∧ k < (listOf fold P Q).length := by
  have hlt := (List.getElem?_eq_some_iff.1 hk).1
  cases fold
  · have hk' : P[k]? = some a := hk
    have := h.op.cellAt (j := 0) encInt_len hk' rfl
    exact ⟨by show w.cell? ⟨pb, k, none⟩ = _; simpa using this, h.op.frozenAt k, by have := h.lp; have := (List.getElem?_eq_some_iff.1 hk').1; omega, hlt⟩
  · have hk' : Q[k]? = some a := hk
    have := h.oq.cellAt (j := 0) encInt_len hk' rfl
    exact ⟨by show w.cell? ⟨sb, k, none⟩ = _; simpa using this, h.oq.frozenAt k, by have := h.ls; have := (List.getElem?_eq_some_iff.1 hk').1; omega, hlt⟩
theorem RM.set {w : World} {base mb pb sb hb : Nat} {P Q W : List Int} (h : RM w base mb pb sb hb P Q W) {fold : Bool} {k : Nat} {a v : Int} (hk : (listOf fold P Q)[k]? = some a) :
    RM (w.setCell ⟨blkOf fold pb sb, k, none⟩ (.int .i64 v)) base mb pb sb hb (setL fold P k v) (setR fold Q k v) W := by
  have d1 := h.d1; have d2 := h.d2; have d3 := h.d3; have d4 := h.d4; have d5 := h.d5; have d6 := h.d6
  cases fold
  · show RM (w.setCell ⟨pb, k, none⟩ (.int .i64 v)) base mb pb sb hb (P.set k v) Q W
    have hk' : P[k]? = some a := hk
    have ho := h.op.set' (j := 0) (y := v) (u := .int .i64 v) encInt_len hk' (by decide) rfl
    simp only [Nat.mul_one, Nat.add_zero] at ho
    exact ⟨by rw [List.length_set]; exact cellSetO h.c0 (fun e => d1 (congrArg Addr.block e).symm), cellSetO h.c1 (fun e => d1 (congrArg Addr.block e).symm), cellSetO h.c2 (fun e => d1 (congrArg Addr.block e).symm),
      by rw [List.length_set]; exact ho, h.oq.setOther (fun e => d4 (Option.some.inj e).symm) _, h.ow.setOther (fun e => d5 (Option.some.inj e).symm) _, h.bt, d1, d2, d3, d4, d5, d6, by rw [List.length_set]; exact h.lp, h.ls, by rw [List.length_set]; exact h.lw⟩
  · show RM (w.setCell ⟨sb, k, none⟩ (.int .i64 v)) base mb pb sb hb P (Q.set k v) W
    have hk' : Q[k]? = some a := hk
    have ho := h.oq.set' (j := 0) (y := v) (u := .int .i64 v) encInt_len hk' (by decide) rfl
    simp only [Nat.mul_one, Nat.add_zero] at ho
    exact ⟨cellSetO h.c0 (fun e => d2 (congrArg Addr.block e).symm), by rw [List.length_set]; exact cellSetO h.c1 (fun e => d2 (congrArg Addr.block e).symm), cellSetO h.c2 (fun e => d2 (congrArg Addr.block e).symm),
      h.op.setOther (a := ⟨sb, k, none⟩) (fun e => d4 (Option.some.inj e)) _, by rw [List.length_set]; exact ho, h.ow.setOther (fun e => d6 (Option.some.inj e).symm) _, h.bt, d1, d2, d3, d4, d5, d6, h.lp, by rw [List.length_set]; exact h.ls, h.lw⟩
theorem RM.setW {w : World} {base mb pb sb hb : Nat} {P Q W : List Int} (h : RM w base mb pb sb hb P Q W) {k : Nat} {a v : Int} (hk : W[k]? = some a) :
    RM (w.setCell ⟨hb, k, none⟩ (.int .i64 v)) base mb pb sb hb P Q (W.set k v) := by
  have d1 := h.d1; have d2 := h.d2; have d3 := h.d3; have d4 := h.d4; have d5 := h.d5; have d6 := h.d6
  have ho := h.ow.set' (j := 0) (y := v) (u := .int .i64 v) encInt_len hk (by decide) rfl
  simp only [Nat.mul_one, Nat.add_zero] at ho
  exact ⟨cellSetO h.c0 (fun e => d3 (congrArg Addr.block e).symm), cellSetO h.c1 (fun e => d3 (congrArg Addr.block e).symm), by rw [List.length_set]; exact cellSetO h.c2 (fun e => d3 (congrArg Addr.block e).symm),
    h.op.setOther (a := ⟨hb, k, none⟩) (fun e => d5 (Option.some.inj e)) _, h.oq.setOther (a := ⟨hb, k, none⟩) (fun e => d6 (Option.some.inj e)) _, by rw [List.length_set]; exact ho, h.bt, d1, d2, d3, d4, d5, d6, h.lp, h.ls, by rw [List.length_set]; exact h.lw⟩

theorem Set_no {fold : Bool} {i st wk : Int} {w : World} {base mb pb sb hb : Nat} {P Q W : List Int} (h : RM w base mb pb sb hb P Q W) (hi : ¬ (0 ≤ i ∧ i < (listOf fold P Q).length)) :
    Calls Try.prog 40 #[.pointer (some ⟨mb, 0, none⟩), .bool fold, .int .i64 i, .int .i64 st, .int .i64 wk] w fun e w' => e = .returned (.tuple #[.bool false, .int .i64 5]) ∧ w = w' := by
  have hr : isThere i (listOf fold P Q).length = false := by unfold isThere; rw [Bool.and_eq_false_iff]; simp; omega
  have HH := hide (Has_any fold i h)
  rw [hr] at HH
  clear hr hi h
  go_enter Try.func40, Try.ntmps40
  go_wp2_with fail
  refine HH.out.mono ?_
  rintro e w1 ⟨rfl, rfl⟩
  go_wp2
  go_ret2
  exact ⟨rfl, rfl⟩
theorem isThere_yes {k n : Nat} (h : k < n) : isThere (k : Int) n = true := by unfold isThere; simp; omega

/-- may it be begun? -/
def mayB (fold : Bool) (a : Int) (P : List Int) : Bool := !(a == 2) && (!fold || allTwo P)
set_option maxHeartbeats 1000000 in
theorem Set1_not {fold : Bool} {k : Nat} {a wk : Int} {w : World} {base mb pb sb hb : Nat} {P Q W : List Int} (h : RM w base mb pb sb hb P Q W) (hk : (listOf fold P Q)[k]? = some a) (hm : mayB fold a P = false) :
    Calls Try.prog 40 #[.pointer (some ⟨mb, 0, none⟩), .bool fold, .int .i64 k, .int .i64 1, .int .i64 wk] w fun e w' => e = .returned (.tuple #[.bool false, .int .i64 7]) ∧ w = w' := by
  obtain ⟨d0, dz, hk60, hlt⟩ := h.elem hk
  have HH := hide (Has_any fold k h)
  rw [isThere_yes hlt] at HH
  have HL := hide (List_any fold h)
  have HO := hide (Over_any false h)
  clear h hk
  generalize (listOf fold P Q).length = n at *
  generalize blkOf fold pb sb = bb at *
  by_cases h2 : a = 2
  · subst h2
    clear hm
    go_enter Try.func40, Try.ntmps40
    go_wp2_with fail
    refine HH.out.mono ?_
    rintro e w1 ⟨rfl, rfl⟩
    go_wp2_with fail
    refine HL.out.mono ?_
    rintro e w1 ⟨rfl, rfl⟩
    go_wp2
    go_ret2
    exact ⟨rfl, rfl⟩
  · have h2' : (a == 2) = false := by simpa using h2
    have hf : fold = true ∧ allTwo P = false := by
      unfold mayB at hm; rw [h2'] at hm
      cases fold <;> simp_all
    obtain ⟨rfl, hd⟩ := hf
    have HO' : Hid (Calls Try.prog 62 #[.pointer (some ⟨mb, 0, none⟩), .bool false] w fun e w' => e = .returned (.bool false) ∧ w = w') := by
      have := HO.out; rw [show allTwo (listOf false P Q) = false from hd] at this; exact this
    clear HO hd h2 hm
    go_enter Try.func40, Try.ntmps40
    go_wp2_with fail
    refine HH.out.mono ?_
    rintro e w1 ⟨rfl, rfl⟩
    go_wp2_with fail
    refine HL.out.mono ?_
    rintro e w1 ⟨rfl, rfl⟩
    go_wp2_with fail
    refine HO'.out.mono ?_
    rintro e w1 ⟨rfl, rfl⟩
    go_wp2
    go_ret2
    exact ⟨rfl, rfl⟩
set_option maxHeartbeats 1000000 in
theorem Set1_yes {fold : Bool} {k : Nat} {a wk : Int} {w : World} {base mb pb sb hb : Nat} {P Q W : List Int} (h : RM w base mb pb sb hb P Q W) (hk : (listOf fold P Q)[k]? = some a) (hm : mayB fold a P = true) :
    Calls Try.prog 40 #[.pointer (some ⟨mb, 0, none⟩), .bool fold, .int .i64 k, .int .i64 1, .int .i64 wk] w fun e w' => e = .returned (.tuple #[.bool true, .int .i64 0]) ∧ KeptBut (fun q => q = blkOf fold pb sb) w w' ∧
      RM w' base mb pb sb hb (setL fold P k 1) (setR fold Q k 1) W := by
  obtain ⟨d0, dz, hk60, hlt⟩ := h.elem hk
  have HH := hide (Has_any fold k h)
  rw [isThere_yes hlt] at HH
  have HL := hide (List_any fold h)
  have HO := hide (Over_any false h)
  have HS := hide (h.set (v := 1) hk)
  clear h hk
  generalize (listOf fold P Q).length = n at *
  generalize blkOf fold pb sb = bb at *
  have h2' : (a == 2) = false := by
    unfold mayB at hm
    cases h : (a == 2) <;> simp_all
  have h3' : (a != 2) = true := by rw [bne, h2']; rfl
  cases fold
  · clear hm HO
    go_enter Try.func40, Try.ntmps40
    go_wp2_with fail
    refine HH.out.mono ?_
    rintro e w1 ⟨rfl, rfl⟩
    go_wp2_with fail
    refine HL.out.mono ?_
    rintro e w1 ⟨rfl, rfl⟩
    go_wp2
    go_ret2
    exact ⟨rfl, (KeptBut.refl (fun q => q = bb) w).setCell (p := ⟨bb, k, none⟩) rfl _, HS.out⟩
  · have hd : allTwo P = true := by unfold mayB at hm; rw [h2'] at hm; simpa using hm
    have HO' : Hid (Calls Try.prog 62 #[.pointer (some ⟨mb, 0, none⟩), .bool false] w fun e w' => e = .returned (.bool true) ∧ w = w') := by
      have := HO.out; rw [show allTwo (listOf false P Q) = true from hd] at this; exact this
    clear HO hd hm
    go_enter Try.func40, Try.ntmps40
    go_wp2_with fail
    refine HH.out.mono ?_
    rintro e w1 ⟨rfl, rfl⟩
    go_wp2_with fail
    refine HL.out.mono ?_
    rintro e w1 ⟨rfl, rfl⟩
    go_wp2_with fail
    refine HO'.out.mono ?_
    rintro e w1 ⟨rfl, rfl⟩
    go_wp2
    go_ret2
    exact ⟨rfl, (KeptBut.refl (fun q => q = bb) w).setCell (p := ⟨bb, k, none⟩) rfl _, HS.out⟩
end Go.Proofs.Ytllibbdgnjcchaa
