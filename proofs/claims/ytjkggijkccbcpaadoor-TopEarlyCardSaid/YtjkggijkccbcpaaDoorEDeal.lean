/- Rows of rows of pairs: what each part gives to each slice. -/
import Derived.Test.YtjkggijkccbcpaaDoorApp2
import Derived.Test.YtjkggijkccbcpaaDoorOwn
import Derived.Test.YtjkggijkccbcpaaDoorMerge
set_option linter.unusedSimpArgs false
set_option linter.unusedVariables false
/- A made slice of slices of pairs, each of which grows: the rows of a job's slices. -/
namespace Go.Proofs.YtjkggijkccbcpaaDoor
open Go.RowKit

/-- the rows that lie in block ob -/
structure Rws (w : World) (base ob : Nat) (vs : List Value) (ls : List (List Pr)) : Prop where
  bk : Bk w ob vs
  len : vs.length = ls.length
  lo : base ≤ ob
  own : ∀ (i : Nat) v l, vs[i]? = some v → ls[i]? = some l → Own 2 encP 70 w base v l
  ne : ∀ (i : Nat) v, vs[i]? = some v → v.ownBlock ≠ some ob
  apart : ∀ (i j : Nat) u v q, i ≠ j → vs[i]? = some u → vs[j]? = some v → u.ownBlock = some q → v.ownBlock ≠ some q
theorem Rws.later {w w' : World} {base ob : Nat} {vs : List Value} {ls : List (List Pr)} (h : Rws w base ob vs ls) (hb : Below w.heap.size w w') : Rws w' base ob vs ls :=
  ⟨h.bk.later hb, h.len, h.lo, fun i v l a b => (h.own i v l a b).later hb, h.ne, h.apart⟩
theorem Rws.row {w : World} {base ob : Nat} {vs : List Value} {ls : List (List Pr)} (h : Rws w base ob vs ls) {k : Nat} (hk : k < ls.length) : ∃ v l, vs[k]? = some v ∧ ls[k]? = some l ∧ Own 2 encP 70 w base v l ∧ w.cell? ⟨ob, k, none⟩ = some v := by
  have hkv : k < vs.length := by have h1 := h.len; omega
  have hv : vs[k]? = some vs[k] := List.getElem?_eq_getElem hkv
  have hl : ls[k]? = some ls[k] := List.getElem?_eq_getElem hk
  exact ⟨_, _, hv, hl, h.own k _ _ hv hl, h.bk.get hv⟩
/-- one row more: a new value of row k -/
theorem Rws.put {W A w1 : World} {base ob k : Nat} {vs : List Value} {ls : List (List Pr)} {v v' : Value} {l l' : List Pr} (h : Rws W base ob vs ls) (hv : vs[k]? = some v) (hA : Below W.heap.size W A) (hs : W.heap.size ≤ A.heap.size)
    (ho : Own 2 encP 70 w1 base v' l') (hg : A.grownBy w1 v.ownBlock) (hat : ∀ q, v'.ownBlock = some q → v.ownBlock = some q ∨ W.heap.size ≤ q) :
    Rws (w1.setCell ⟨ob, k, none⟩ v') base ob (vs.set k v') (ls.set k l') ∧ w1.frozen? ⟨ob, k, none⟩ = false ∧ w1.cell? ⟨ob, k, none⟩ = some v := by
  have hk1 : KeptBut (fun q => v.ownBlock = some q) A w1 := KeptBut.of_grown hg fun q e => e
  have hbA := h.bk.later hA
  have hb1 := hbA.kept hk1 (h.ne k v hv)
  have hob := h.bk.lt
  have hkl : k < vs.length := (List.getElem?_eq_some_iff.1 hv).1
  have hv'ob : v'.ownBlock ≠ some ob := fun e => by
    rcases hat _ e with e2 | hm
    · exact h.ne k v hv e2
    · omega
  have hlt : ∀ (i : Nat) u q, vs[i]? = some u → u.ownBlock = some q → q < W.heap.size := fun i u q hu hq => by
    have hil : i < ls.length := by have h1 := (List.getElem?_eq_some_iff.1 hu).1; have h2 := h.len; omega
    exact ((h.own i u _ hu (List.getElem?_eq_getElem hil)).lt q hq).2
  refine ⟨⟨hb1.set (k := k) (u := v) v' hv, by rw [List.length_set, List.length_set]; exact h.len, h.lo, fun i u m hu hm => ?_, fun i u hu => ?_, fun i j u x q hij hu hx hq => ?_⟩, hb1.fz k, hb1.get hv⟩
  · by_cases e : i = k
    · subst e
      rw [List.getElem?_set_self hkl] at hu
      rw [List.getElem?_set_self (by have := h.len; omega)] at hm
      cases hu; cases hm
      exact ho.setOther hv'ob _
    · rw [List.getElem?_set_ne (fun e2 => e e2.symm)] at hu hm
      have h1 := (h.own i u m hu hm).later hA
      have h2 := hk1.own h1 fun q hq e2 => h.apart i k u v q e hu hv hq e2
      exact h2.setOther (h.ne i u hu) _
  · by_cases e : i = k
    · subst e
      rw [List.getElem?_set_self hkl] at hu
      cases hu
      exact hv'ob
    · rw [List.getElem?_set_ne (fun e2 => e e2.symm)] at hu
      exact h.ne i u hu
  · by_cases ei : i = k
    · subst ei
      rw [List.getElem?_set_self hkl] at hu
      cases hu
      rw [List.getElem?_set_ne hij] at hx
      intro hxq
      rcases hat q hq with e2 | hm
      · exact h.apart i j v x q hij hv hx e2 hxq
      · have := hlt j x _ hx hxq
        omega
    · rw [List.getElem?_set_ne (fun e2 => ei e2.symm)] at hu
      by_cases ej : j = k
      · subst ej
        rw [List.getElem?_set_self hkl] at hx
        cases hx
        intro hxq
        rcases hat q hxq with e2 | hm
        · exact h.apart i j u v q hij hu hv hq e2
        · have := hlt i u _ hu hq
          omega
      · rw [List.getElem?_set_ne (fun e2 => ej e2.symm)] at hx
        exact h.apart i j u x q hij hu hx hq
/-- rows that are made: all empty -/
theorem Rws.made {w : World} {base ob n : Nat} (hb : Bk w ob (List.replicate n (.slice none 0 0))) (hlo : base ≤ ob) : Rws w base ob (List.replicate n (.slice none 0 0)) (List.replicate n []) := by
  have hh : ∀ (i : Nat) v, (List.replicate n (Value.slice none 0 0))[i]? = some v → v = .slice none 0 0 := fun i v hv => by
    have := List.mem_of_getElem? hv
    exact (List.mem_replicate.1 this).2
  refine ⟨hb, by simp, hlo, fun i v l hv hl => ?_, fun i v hv => ?_, fun i j u v q _ hu _ hq => ?_⟩
  · rw [hh i v hv, (List.mem_replicate.1 (List.mem_of_getElem? hl)).2]
    exact Own.nil
  · rw [hh i v hv]; simp [Value.ownBlock]
  · rw [hh i u hu] at hq; simp [Value.ownBlock] at hq
end Go.Proofs.YtjkggijkccbcpaaDoor
/- A made slice of slices, each of which grows: over any elements. -/
namespace Go.Proofs.YtjkggijkccbcpaaDoor
open Go.RowKit

/-- the rows that lie in block ob -/
structure GRws {α : Type} (sz : Nat) (enc : α → List Value) (e : TypeId) (w : World) (base ob : Nat) (vs : List Value) (ls : List (List α)) : Prop where
  bk : Bk w ob vs
  len : vs.length = ls.length
  lo : base ≤ ob
  own : ∀ (i : Nat) v l, vs[i]? = some v → ls[i]? = some l → Own sz enc e w base v l
  ne : ∀ (i : Nat) v, vs[i]? = some v → v.ownBlock ≠ some ob
  apart : ∀ (i j : Nat) u v q, i ≠ j → vs[i]? = some u → vs[j]? = some v → u.ownBlock = some q → v.ownBlock ≠ some q
theorem GRws.later {α : Type} {sz : Nat} {enc : α → List Value} {e : TypeId} {w w' : World} {base ob : Nat} {vs : List Value} {ls : List (List α)} (h : GRws sz enc e w base ob vs ls) (hb : Below w.heap.size w w') : GRws sz enc e w' base ob vs ls :=
  ⟨h.bk.later hb, h.len, h.lo, fun i v l a b => (h.own i v l a b).later hb, h.ne, h.apart⟩
theorem GRws.row {α : Type} {sz : Nat} {enc : α → List Value} {e : TypeId} {w : World} {base ob : Nat} {vs : List Value} {ls : List (List α)} (h : GRws sz enc e w base ob vs ls) {k : Nat} (hk : k < ls.length) : ∃ v l, vs[k]? = some v ∧ ls[k]? = some l ∧ Own sz enc e w base v l ∧ w.cell? ⟨ob, k, none⟩ = some v := by
  have hkv : k < vs.length := by have h1 := h.len; omega
  have hv : vs[k]? = some vs[k] := List.getElem?_eq_getElem hkv
  have hl : ls[k]? = some ls[k] := List.getElem?_eq_getElem hk
  exact ⟨_, _, hv, hl, h.own k _ _ hv hl, h.bk.get hv⟩
/-- one row more: a new value of row k -/
theorem GRws.put {α : Type} {sz : Nat} {enc : α → List Value} {e : TypeId} {W A w1 : World} {base ob k : Nat} {vs : List Value} {ls : List (List α)} {v v' : Value} {l l' : List α} (h : GRws sz enc e W base ob vs ls) (hv : vs[k]? = some v) (hA : Below W.heap.size W A) (hs : W.heap.size ≤ A.heap.size)
    (ho : Own sz enc e w1 base v' l') (hg : A.grownBy w1 v.ownBlock) (hat : ∀ q, v'.ownBlock = some q → v.ownBlock = some q ∨ W.heap.size ≤ q) :
    GRws sz enc e (w1.setCell ⟨ob, k, none⟩ v') base ob (vs.set k v') (ls.set k l') ∧ w1.frozen? ⟨ob, k, none⟩ = false ∧ w1.cell? ⟨ob, k, none⟩ = some v := by
  have hk1 : KeptBut (fun q => v.ownBlock = some q) A w1 := KeptBut.of_grown hg fun q e => e
  have hbA := h.bk.later hA
  have hb1 := hbA.kept hk1 (h.ne k v hv)
  have hob := h.bk.lt
  have hkl : k < vs.length := (List.getElem?_eq_some_iff.1 hv).1
  have hv'ob : v'.ownBlock ≠ some ob := fun e => by
    rcases hat _ e with e2 | hm
    · exact h.ne k v hv e2
    · omega
  have hlt : ∀ (i : Nat) u q, vs[i]? = some u → u.ownBlock = some q → q < W.heap.size := fun i u q hu hq => by
    have hil : i < ls.length := by have h1 := (List.getElem?_eq_some_iff.1 hu).1; have h2 := h.len; omega
    exact ((h.own i u _ hu (List.getElem?_eq_getElem hil)).lt q hq).2
  refine ⟨⟨hb1.set (k := k) (u := v) v' hv, by rw [List.length_set, List.length_set]; exact h.len, h.lo, fun i u m hu hm => ?_, fun i u hu => ?_, fun i j u x q hij hu hx hq => ?_⟩, hb1.fz k, hb1.get hv⟩
  · by_cases e : i = k
    · subst e
      rw [List.getElem?_set_self hkl] at hu
      rw [List.getElem?_set_self (by have := h.len; omega)] at hm
      cases hu; cases hm
      exact ho.setOther hv'ob _
    · rw [List.getElem?_set_ne (fun e2 => e e2.symm)] at hu hm
      have h1 := (h.own i u m hu hm).later hA
      have h2 := hk1.own h1 fun q hq e2 => h.apart i k u v q e hu hv hq e2
      exact h2.setOther (h.ne i u hu) _
  · by_cases e : i = k
    · subst e
      rw [List.getElem?_set_self hkl] at hu
      cases hu
      exact hv'ob
    · rw [List.getElem?_set_ne (fun e2 => e e2.symm)] at hu
      exact h.ne i u hu
  · by_cases ei : i = k
    · subst ei
      rw [List.getElem?_set_self hkl] at hu
      cases hu
      rw [List.getElem?_set_ne hij] at hx
      intro hxq
      rcases hat q hq with e2 | hm
      · exact h.apart i j v x q hij hv hx e2 hxq
      · have := hlt j x _ hx hxq
        omega
    · rw [List.getElem?_set_ne (fun e2 => ei e2.symm)] at hu
      by_cases ej : j = k
      · subst ej
        rw [List.getElem?_set_self hkl] at hx
        cases hx
        intro hxq
        rcases hat q hxq with e2 | hm
        · exact h.apart i j u v q hij hu hv hq e2
        · have := hlt i u _ hu hq
          omega
      · rw [List.getElem?_set_ne (fun e2 => ej e2.symm)] at hx
        exact h.apart i j u x q hij hu hx hq
/-- rows that are made: all empty -/
theorem GRws.made {α : Type} {sz : Nat} {enc : α → List Value} {e : TypeId} {w : World} {base ob n : Nat} (hb : Bk w ob (List.replicate n (.slice none 0 0))) (hlo : base ≤ ob) : GRws sz enc e w base ob (List.replicate n (.slice none 0 0)) (List.replicate n ([] : List α)) := by
  have hh : ∀ (i : Nat) v, (List.replicate n (Value.slice none 0 0))[i]? = some v → v = .slice none 0 0 := fun i v hv => by
    have := List.mem_of_getElem? hv
    exact (List.mem_replicate.1 this).2
  refine ⟨hb, by simp, hlo, fun i v l hv hl => ?_, fun i v hv => ?_, fun i j u v q _ hu _ hq => ?_⟩
  · rw [hh i v hv, (List.mem_replicate.1 (List.mem_of_getElem? hl)).2]
    exact Own.nil
  · rw [hh i v hv]; simp [Value.ownBlock]
  · rw [hh i u hu] at hq; simp [Value.ownBlock] at hq
end Go.Proofs.YtjkggijkccbcpaaDoor
namespace Go.Proofs.YtjkggijkccbcpaaDoor
open Go.RowKit

theorem GRws.kept {α : Type} {sz : Nat} {enc : α → List Value} {e : TypeId} {w w' : World} {base ob : Nat} {vs : List Value} {ls : List (List α)} {T : Nat → Prop} (h : GRws sz enc e w base ob vs ls) (k : KeptBut T w w') (hT : ∀ q, T q → q < base) : GRws sz enc e w' base ob vs ls :=
  ⟨h.bk.kept k fun e => by have h1 := hT _ e; have h2 := h.lo; omega, h.len, h.lo, fun i v l a b => k.own (h.own i v l a b) fun q hq e => by have h1 := ((h.own i v l a b).lt q hq).1; have h2 := hT q e; omega, h.ne, h.apart⟩
theorem Rws.kept {w w' : World} {base ob : Nat} {vs : List Value} {ls : List (List Pr)} {T : Nat → Prop} (h : Rws w base ob vs ls) (k : KeptBut T w w') (hT : ∀ q, T q → q < base) : Rws w' base ob vs ls :=
  ⟨h.bk.kept k fun e => by have h1 := hT _ e; have h2 := h.lo; omega, h.len, h.lo, fun i v l a b => k.own (h.own i v l a b) fun q hq e => by have h1 := ((h.own i v l a b).lt q hq).1; have h2 := hT q e; omega, h.ne, h.apart⟩
structure EDeal (w : World) (base ob : Nat) (vs : List Value) (pss : List (List RowP)) : Prop where
  rws : GRws 1 encRow 43 w base ob vs pss
  row : ∀ (i : Nat) rows r, pss[i]? = some rows → r ∈ rows → Sl 2 encP w r.1 r.2.2 ∧ ∀ b o, r.1 = some ⟨b, o, none⟩ → (b ≠ ob ∧ b < w.heap.size) ∧ ∀ (j : Nat) v, vs[j]? = some v → v.ownBlock ≠ some b
theorem EDeal.later {w w' : World} {base ob : Nat} {vs : List Value} {pss : List (List RowP)} (h : EDeal w base ob vs pss) (hb : Below w.heap.size w w') : EDeal w' base ob vs pss :=
  ⟨h.rws.later hb, fun i rows r hi hr => ⟨(h.row i rows r hi hr).1.later hb (Nat.le_refl _), fun b o e => ⟨⟨((h.row i rows r hi hr).2 b o e).1.1, Nat.lt_of_lt_of_le ((h.row i rows r hi hr).2 b o e).1.2 hb.size⟩, ((h.row i rows r hi hr).2 b o e).2⟩⟩⟩
/-- one row more for slice k -/
theorem EDeal.put {W A w1 : World} {base ob k : Nat} {vs : List Value} {pss : List (List RowP)} {v v' : Value} {l : List RowP} {r' : RowP} (h : EDeal W base ob vs pss) (hv : vs[k]? = some v) (hl : pss[k]? = some l) (hA : Below W.heap.size W A)
    (ho : Own 1 encRow 43 w1 base v' (l ++ [r'])) (hg : A.grownBy w1 v.ownBlock) (hat : ∀ q, v'.ownBlock = some q → v.ownBlock = some q ∨ W.heap.size ≤ q)
    (hs : Sl 2 encP W r'.1 r'.2.2) (hb : ∀ b o, r'.1 = some ⟨b, o, none⟩ → (b ≠ ob ∧ b < W.heap.size) ∧ ∀ (j : Nat) u, vs[j]? = some u → u.ownBlock ≠ some b) :
    EDeal (w1.setCell ⟨ob, k, none⟩ v') base ob (vs.set k v') (pss.set k (l ++ [r'])) ∧ w1.frozen? ⟨ob, k, none⟩ = false ∧ w1.cell? ⟨ob, k, none⟩ = some v := by
  obtain ⟨h1, h2, h3⟩ := h.rws.put (l := []) hv hA hA.size ho hg hat
  have hkl : k < vs.length := (List.getElem?_eq_some_iff.1 hv).1
  have hkg : KeptBut (fun q => v.ownBlock = some q) A w1 := KeptBut.of_grown hg fun k e => e
  have hkc := (KeptBut.refl (fun q => q = ob) w1).setCell (p := ⟨ob, k, none⟩) rfl v'
  have hsz : (w1.setCell ⟨ob, k, none⟩ v').heap.size = w1.heap.size := by simp [World.setCell]
  have hs1 := hkg.size
  have hs2 := hA.size
  have all : ∀ r : RowP, Sl 2 encP W r.1 r.2.2 → (∀ b o, r.1 = some ⟨b, o, none⟩ → (b ≠ ob ∧ b < W.heap.size) ∧ ∀ (j : Nat) u, vs[j]? = some u → u.ownBlock ≠ some b) →
      Sl 2 encP (w1.setCell ⟨ob, k, none⟩ v') r.1 r.2.2 ∧ ∀ b o, r.1 = some ⟨b, o, none⟩ → (b ≠ ob ∧ b < (w1.setCell ⟨ob, k, none⟩ v').heap.size) ∧ ∀ (j : Nat) u, (vs.set k v')[j]? = some u → u.ownBlock ≠ some b := by
    intro r hr hb
    refine ⟨((hr.later hA (Nat.le_refl _)).kept hkg fun b o e => (hb b o e).2 k v hv).kept hkc fun b o e => (hb b o e).1.1, fun b o e => ⟨⟨(hb b o e).1.1, by have := (hb b o e).1.2; omega⟩, fun j u hj => ?_⟩⟩
    by_cases ej : j = k
    · subst ej
      rw [List.getElem?_set_self hkl] at hj
      cases hj
      intro hq
      rcases hat b hq with e2 | e2
      · exact (hb b o e).2 j v hv e2
      · have := (hb b o e).1.2
        omega
    · rw [List.getElem?_set_ne (fun e2 => ej e2.symm)] at hj
      exact (hb b o e).2 j u hj
  refine ⟨⟨h1, fun i rows r hi hr => ?_⟩, h2, h3⟩
  by_cases ei : i = k
  · subst ei
    rw [List.getElem?_set_self (List.getElem?_eq_some_iff.1 hl).1] at hi
    cases hi
    rcases List.mem_append.1 hr with hr | hr
    · exact all r (h.row i l r hl hr).1 (h.row i l r hl hr).2
    · rw [List.mem_singleton.1 hr]
      exact all r' hs hb
  · rw [List.getElem?_set_ne (fun e2 => ei e2.symm)] at hi
    exact all r (h.row i rows r hi hr).1 (h.row i rows r hi hr).2
theorem EDeal.made {w : World} {base ob n : Nat} (hb : Bk w ob (List.replicate n (.slice none 0 0))) (hlo : base ≤ ob) : EDeal w base ob (List.replicate n (.slice none 0 0)) (List.replicate n []) :=
  ⟨GRws.made hb hlo, fun i rows r hi hr => by rw [(List.mem_replicate.1 (List.mem_of_getElem? hi)).2] at hr; cases hr⟩
end Go.Proofs.YtjkggijkccbcpaaDoor
