/- The law of tasks: what an act does to both. -/
import Derived.Test.YtllibbdgnjcchaaTasksLaw
namespace Go.Proofs.Ytllibbdgnjcchaa
open Go.RowKit

/-- Where all lies. -/
structure Ads where
  bt : Nat
  bm : Nat
  tb : Nat
  pb : Nat
  sb : Nat
  mb : Nat
  qb : Nat
  rb : Nat
  hb : Nat
structure TT (w0 w : World) (A : Ads) (ps ss : List (Int × Int)) (P Q W : List Int) : Prop where
  rt : RT w A.bt A.tb A.pb A.sb ps ss
  rm : RM w A.bm A.mb A.qb A.rb A.hb P Q W
  bel : Below w0.heap.size w0 w
  h1 : A.tb < A.bm ∧ A.pb < A.bm ∧ A.sb < A.bm ∧ w0.heap.size ≤ A.tb ∧ w0.heap.size ≤ A.pb ∧ w0.heap.size ≤ A.sb
  h2 : A.bm ≤ A.mb ∧ A.bm ≤ A.qb ∧ A.bm ≤ A.rb ∧ A.bm ≤ A.hb
  h3 : A.mb < w.heap.size ∧ A.qb < w.heap.size ∧ A.rb < w.heap.size ∧ A.hb < w.heap.size
theorem TT.below {w0 w w' : World} {A : Ads} {ps ss : List (Int × Int)} {P Q W : List Int} (h : TT w0 w A ps ss P Q W) (k : Below w.heap.size w w') : TT w0 w' A ps ss P Q W :=
  ⟨h.rt.below k, h.rm.below k, h.bel.trans (k.mono h.bel.size), h.h1, h.h2, by have := h.h3; have := k.size; omega⟩
theorem TT.stepM {w0 w w' : World} {A : Ads} {ps ss : List (Int × Int)} {P Q W P' Q' W' : List Int} (h : TT w0 w A ps ss P Q W) (k : KeptBut (fun q => q = A.qb ∨ q = A.rb ∨ q = A.hb) w w') (hm : RM w' A.bm A.mb A.qb A.rb A.hb P' Q' W') : TT w0 w' A ps ss P' Q' W' := by
  have h1 := h.h1; have h2 := h.h2; have h3 := h.h3
  exact ⟨h.rt.kept k (by omega) (by omega) (by omega), hm, h.bel.trans (k.below (fun q hq => by omega) h.bel.size), h1, h2, by have := k.size; omega⟩
theorem TT.stepT {w0 w w' : World} {A : Ads} {ps ss ps' ss' : List (Int × Int)} {P Q W : List Int} (h : TT w0 w A ps ss P Q W) (k : KeptBut (fun q => q = A.pb ∨ q = A.sb) w w') (hm : RT w' A.bt A.tb A.pb A.sb ps' ss') : TT w0 w' A ps' ss' P Q W := by
  have h1 := h.h1; have h2 := h.h2; have h3 := h.h3
  exact ⟨hm, h.rm.kept k (by omega) (by omega) (by omega) (by omega), h.bel.trans (k.below (fun q hq => by omega) h.bel.size), h1, h2, by have := k.size; omega⟩
theorem kbM {fold : Bool} {qb rb hb : Nat} {w w' : World} (h : KeptBut (fun q => q = blkOf fold qb rb) w w') : KeptBut (fun q => q = qb ∨ q = rb ∨ q = hb) w w' :=
  h.mono fun q e => by cases fold; exact Or.inl e; exact Or.inr (Or.inl e)
theorem kbM2 {fold : Bool} {qb rb hb : Nat} {w w' : World} (h : KeptBut (fun q => q = blkOf fold qb rb ∨ q = hb) w w') : KeptBut (fun q => q = qb ∨ q = rb ∨ q = hb) w w' :=
  h.mono fun q e => by
    rcases e with e | e
    · cases fold; exact Or.inl e; exact Or.inr (Or.inl e)
    · exact Or.inr (Or.inr e)
theorem kbT {fold : Bool} {pb sb : Nat} {w w' : World} (h : KeptBut (fun q => q = blkOf fold pb sb) w w') : KeptBut (fun q => q = pb ∨ q = sb) w w' :=
  h.mono fun q e => by cases fold; exact Or.inl e; exact Or.inr e
theorem WR.set {ps : List (Int × Int)} {W : List Int} (h : WR ps W) {k : Nat} {x : Int × Int} (hx : x.1 = 2 → W[k]? = some x.2) : WR (ps.set k x) W := by
  intro i b hi
  by_cases e : k = i
  · subst e
    rw [List.getElem?_set] at hi
    simp at hi
    obtain ⟨_, rfl⟩ := hi
    exact hx rfl
  · rw [List.getElem?_set_ne e] at hi
    exact h i b hi
theorem WR.setP {fold : Bool} {ps ss : List (Int × Int)} {W : List Int} (h : WR ps W) {k : Nat} {x : Int × Int} (hx : fold = false → x.1 = 2 → W[k]? = some x.2) : WR (setP fold ps k x) W := by
  cases fold
  · exact h.set (hx rfl)
  · exact h
theorem mapL {fold : Bool} {ps : List (Int × Int)} {k : Nat} {v b : Int} : setL fold (ps.map (·.1)) k v = (setP fold ps k (v, b)).map (·.1) := by
  cases fold
  · exact (map_fst_set ps k (v, b)).symm
  · rfl
theorem mapR {fold : Bool} {ss : List (Int × Int)} {k : Nat} {v b : Int} : setR fold (ss.map (·.1)) k v = (setS fold ss k (v, b)).map (·.1) := by
  cases fold
  · rfl
  · exact (map_fst_set ss k (v, b)).symm
theorem listOf_map {fold : Bool} {ps ss : List (Int × Int)} : listOf fold (ps.map (·.1)) (ss.map (·.1)) = (lstOf fold ps ss).map (·.1) := by cases fold <;> rfl
theorem mayB_map (fold : Bool) (a : Int) (ps : List (Int × Int)) : mayB fold a (ps.map (·.1)) = mayBegin fold a ps := by
  unfold mayB mayBegin; rw [allTwo_map]

/-- what the acts may write -/
def Kq (A : Ads) (w w' : World) : Prop := KeptBut (fun q => q = A.pb ∨ q = A.sb ∨ q = A.qb ∨ q = A.rb ∨ q = A.hb) w w'
theorem kqM {A : Ads} {w w' : World} (h : KeptBut (fun q => q = A.qb ∨ q = A.rb ∨ q = A.hb) w w') : Kq A w w' := h.mono fun q e => by omega
theorem kqT {A : Ads} {w w' : World} (h : KeptBut (fun q => q = A.pb ∨ q = A.sb) w w') : Kq A w w' := h.mono fun q e => by omega
theorem Kq.refl {A : Ads} {w : World} : Kq A w w := KeptBut.refl _ w
theorem Kq.cell {w0 wr w w' : World} {A : Ads} {ps ss : List (Int × Int)} {P Q W : List Int} {j : Nat} {v : Value} (k : Kq A w w') (h : TT w0 wr A ps ss P Q W) (hc : w.cell? ⟨wr.heap.size, j, none⟩ = some v) : w'.cell? ⟨wr.heap.size, j, none⟩ = some v := by
  have h1 := h.h1; have h2 := h.h2; have h3 := h.h3
  exact KeptBut.cell k hc (by simp only []; omega)

theorem begin_two {w0 w : World} {A : Ads} {ps ss : List (Int × Int)} {W : List Int} (fold : Bool) (i : Int) (h : TT w0 w A ps ss (ps.map (·.1)) (ss.map (·.1)) W) (hw : WR ps W) :
    Calls Try.prog 40 #[.pointer (some ⟨A.mb, 0, none⟩), .bool fold, .int .i64 i, .int .i64 1, .int .i64 0] w fun e w' => ∃ c f ps' ss', e = .returned (.tuple #[.bool c, .int .i64 f]) ∧ 0 ≤ f ∧ Kq A w w' ∧ WR ps' W ∧
      TT w0 w' A ps ss (ps'.map (·.1)) (ss'.map (·.1)) W ∧ Calls Try.prog 41 #[.pointer (some ⟨A.tb, 0, none⟩), .bool fold, .int .i64 i] w' fun e w'' => e = .returned (errV f) ∧ TT w0 w'' A ps' ss' (ps'.map (·.1)) (ss'.map (·.1)) W := by
  by_cases hi : 0 ≤ i ∧ i < (lstOf fold ps ss).length
  · obtain ⟨k, rfl⟩ : ∃ k : Nat, i = k := ⟨i.toNat, by omega⟩
    obtain ⟨a, b, hab⟩ : ∃ a b, (lstOf fold ps ss)[k]? = some (a, b) := by
      have hk : k < (lstOf fold ps ss).length := by omega
      exact ⟨(lstOf fold ps ss)[k].1, (lstOf fold ps ss)[k].2, by simp [hk]⟩
    have hab' : (listOf fold (ps.map (·.1)) (ss.map (·.1)))[k]? = some a := by rw [listOf_map, List.getElem?_map, hab]; rfl
    cases hm : mayBegin fold a ps
    · refine (Set1_not h.rm hab' (by rw [mayB_map]; exact hm)).mono ?_
      rintro e w1 ⟨rfl, rfl⟩
      refine ⟨_, _, ps, ss, rfl, by decide, Kq.refl, hw, h, (Begin_not h.rt hab hm).mono ?_⟩
      rintro e w2 ⟨rfl, b2⟩
      exact ⟨rfl, h.below b2⟩
    · refine (Set1_yes h.rm hab' (by rw [mayB_map]; exact hm)).mono ?_
      rintro e w1 ⟨rfl, k1, r1⟩
      rw [mapL (b := b), mapR (b := b)] at r1
      have t1 := h.stepM (kbM k1) r1
      refine ⟨_, _, _, _, rfl, by decide, kqM (kbM k1), WR.setP (ss := ss) hw (fun _ e => by cases e), t1, (Begin_yes t1.rt hab hm).mono ?_⟩
      rintro e w2 ⟨rfl, k2, r2⟩
      exact ⟨rfl, t1.stepT (kbT k2) r2⟩
  · refine (Set_no h.rm (by rw [listOf_map, List.length_map]; exact hi)).mono ?_
    rintro e w1 ⟨rfl, rfl⟩
    refine ⟨_, _, ps, ss, rfl, by decide, Kq.refl, hw, h, (Begin_no h.rt hi).mono ?_⟩
    rintro e w2 ⟨rfl, rfl⟩
    exact ⟨rfl, h⟩

theorem wait_two {w0 w : World} {A : Ads} {ps ss : List (Int × Int)} {W : List Int} (fold : Bool) (i : Int) (h : TT w0 w A ps ss (ps.map (·.1)) (ss.map (·.1)) W) (hw : WR ps W) :
    Calls Try.prog 40 #[.pointer (some ⟨A.mb, 0, none⟩), .bool fold, .int .i64 i, .int .i64 0, .int .i64 0] w fun e w' => ∃ c f ps' ss', e = .returned (.tuple #[.bool c, .int .i64 f]) ∧ 0 ≤ f ∧ Kq A w w' ∧ WR ps' W ∧
      TT w0 w' A ps ss (ps'.map (·.1)) (ss'.map (·.1)) W ∧ Calls Try.prog 42 #[.pointer (some ⟨A.tb, 0, none⟩), .bool fold, .int .i64 i] w' fun e w'' => e = .returned (errV f) ∧ TT w0 w'' A ps' ss' (ps'.map (·.1)) (ss'.map (·.1)) W := by
  by_cases hi : 0 ≤ i ∧ i < (lstOf fold ps ss).length
  · obtain ⟨k, rfl⟩ : ∃ k : Nat, i = k := ⟨i.toNat, by omega⟩
    obtain ⟨a, b, hab⟩ : ∃ a b, (lstOf fold ps ss)[k]? = some (a, b) := by
      have hk : k < (lstOf fold ps ss).length := by omega
      exact ⟨(lstOf fold ps ss)[k].1, (lstOf fold ps ss)[k].2, by simp [hk]⟩
    have hab' : (listOf fold (ps.map (·.1)) (ss.map (·.1)))[k]? = some a := by rw [listOf_map, List.getElem?_map, hab]; rfl
    refine (Set0_yes h.rm hab').mono ?_
    rintro e w1 ⟨rfl, k1, r1⟩
    rw [mapL (b := b), mapR (b := b)] at r1
    have t1 := h.stepM (kbM k1) r1
    refine ⟨_, _, _, _, rfl, by decide, kqM (kbM k1), WR.setP (ss := ss) hw (fun ef e => ?_), t1, (Wait_yes t1.rt hab).mono ?_⟩
    · subst ef
      have e' : (if a = 1 then 0 else a) = (2 : Int) := e
      have ha : a = 2 := by split at e' <;> omega
      subst ha
      exact hw k b hab
    · rintro e w2 ⟨rfl, k2, r2⟩
      exact ⟨rfl, t1.stepT (kbT k2) r2⟩
  · refine (Set_no h.rm (by rw [listOf_map, List.length_map]; exact hi)).mono ?_
    rintro e w1 ⟨rfl, rfl⟩
    refine ⟨_, _, ps, ss, rfl, by decide, Kq.refl, hw, h, (Wait_no h.rt hi).mono ?_⟩
    rintro e w2 ⟨rfl, rfl⟩
    exact ⟨rfl, h⟩

theorem finish_two {w0 w : World} {A : Ads} {ps ss : List (Int × Int)} {W : List Int} (fold : Bool) (i wk : Int) (h : TT w0 w A ps ss (ps.map (·.1)) (ss.map (·.1)) W) (hw : WR ps W) :
    Calls Try.prog 43 #[.pointer (some ⟨A.tb, 0, none⟩), .bool fold, .int .i64 i, .int .i64 wk] w fun e w' => ∃ c f ps' ss' W', e = .returned (.tuple #[.bool c, errV f]) ∧ 0 ≤ f ∧ Kq A w w' ∧ WR ps' W' ∧
      TT w0 w' A ps' ss' (ps.map (·.1)) (ss.map (·.1)) W ∧ Calls Try.prog 40 #[.pointer (some ⟨A.mb, 0, none⟩), .bool fold, .int .i64 i, .int .i64 2, .int .i64 wk] w' fun e w'' => e = .returned (.tuple #[.bool c, .int .i64 f]) ∧ TT w0 w'' A ps' ss' (ps'.map (·.1)) (ss'.map (·.1)) W' := by
  by_cases hi : 0 ≤ i ∧ i < (lstOf fold ps ss).length
  · obtain ⟨k, rfl⟩ : ∃ k : Nat, i = k := ⟨i.toNat, by omega⟩
    have hk : k < (lstOf fold ps ss).length := by omega
    obtain ⟨a, b, hab⟩ : ∃ a b, (lstOf fold ps ss)[k]? = some (a, b) :=
      ⟨(lstOf fold ps ss)[k].1, (lstOf fold ps ss)[k].2, by simp [hk]⟩
    have hab' : (listOf fold (ps.map (·.1)) (ss.map (·.1)))[k]? = some a := by rw [listOf_map, List.getElem?_map, hab]; rfl
    by_cases ha : a = 2
    · subst ha
      refine (Finish_done h.rt hab).mono ?_
      rintro e w1 ⟨rfl, rfl⟩
      refine ⟨_, 0, ps, ss, W, rfl, by decide, Kq.refl, hw, h, (Set2_yes h.rm hab').mono ?_⟩
      rintro e w2 ⟨rfl, k2, r2⟩
      refine ⟨rfl, h.stepM (kbM2 k2) ?_⟩
      have e1 : setL fold (ps.map (·.1)) k 2 = ps.map (·.1) := by
        cases fold
        · exact set_same hab'
        · rfl
      have e2 : setR fold (ss.map (·.1)) k 2 = ss.map (·.1) := by
        cases fold
        · rfl
        · exact set_same hab'
      have e3 : whereOf fold 2 W k wk = W := by unfold whereOf; simp
      rw [e1, e2, e3] at r2
      exact r2
    · refine (Finish_yes h.rt hab ha).mono ?_
      rintro e w1 ⟨rfl, k1, r1⟩
      have t1 := h.stepT (kbT k1) r1
      refine ⟨_, 0, _, _, whereOf fold a W k wk, rfl, by decide, kqT (kbT k1), ?_, t1, (Set2_yes t1.rm hab').mono ?_⟩
      · cases fold
        · have e2 : (a == 2) = false := by simpa using ha
          have hkp : k < ps.length := hk
          have hlw := h.rm.lw
          rw [List.length_map] at hlw
          unfold whereOf
          rw [e2]
          intro i b' hib
          have hib' : (ps.set k (2, wk))[i]? = some (2, b') := hib
          show (W.set k wk)[i]? = some b'
          by_cases e : k = i
          · subst e
            rw [List.getElem?_set_self hkp] at hib'
            cases hib'
            rw [List.getElem?_set_self (by omega)]
          · rw [List.getElem?_set_ne e] at hib' ⊢
            exact hw i b' hib'
        · exact hw
      · rintro e w2 ⟨rfl, k2, r2⟩
        rw [mapL (b := wk), mapR (b := wk)] at r2
        refine ⟨?_, t1.stepM (kbM2 k2) r2⟩
        have : (a != 2) = true := by simpa using ha
        rw [this]
  · refine (Finish_no h.rt hi).mono ?_
    rintro e w1 ⟨rfl, rfl⟩
    refine ⟨_, _, ps, ss, W, rfl, by decide, Kq.refl, hw, h, (Set_no h.rm (by rw [listOf_map, List.length_map]; exact hi)).mono ?_⟩
    rintro e w2 ⟨rfl, rfl⟩
    exact ⟨rfl, h⟩
end Go.Proofs.Ytllibbdgnjcchaa
