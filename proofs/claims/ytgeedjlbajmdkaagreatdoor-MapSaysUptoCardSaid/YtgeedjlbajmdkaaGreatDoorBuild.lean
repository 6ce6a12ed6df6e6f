/- A strings.Builder that a call makes itself: its methods at this program. -/
import Derived.Test.YtgeedjlbajmdkaaGreatDoorErr
import Derived.StillTailTactics
import Derived.Maps.AppendAt
import Derived.Lib.Split
import Derived.Lib.IndexMore
import Derived.Test.YtgeedjlbajmdkaaGreatDoorPairs
import Derived.Test.YtgeedjlbajmdkaaGreatDoorShelf
import Derived.Shelf.Strings.Builder1
import Derived.Lib.Builder
import Derived.Lib.Strings
set_option linter.unusedSimpArgs false
set_option linter.unusedVariables false
/- Slices that a call makes itself: 'Own': a list's cells in a row of the call's own; laws over any program. -/
namespace Go.Proofs.YtgeedjlbajmdkaaGreatDoor
open Go.RowKit

/-- v is a slice of the call's own (its block is 'base' or later) that holds the list l. -/
def Own {α : Type} (sz : Nat) (enc : α → List Value) (e : TypeId) (w : World) (base : Nat) (v : Value) (l : List α) : Prop :=
  (∃ ao cap, v = .slice ao l.length cap) ∧ w.ownsRow base e sz v l.length (l.flatMap enc)

section
variable {α : Type} {sz : Nat} {enc : α → List Value} {e : TypeId} {w : World} {base : Nat} {v : Value} {l : List α}

theorem Own.nil : Own sz enc e w base (.slice none 0 0) ([] : List α) := ⟨⟨none, 0, rfl⟩, World.ownsRow_nil _ _ _ _⟩

theorem Own.addr (h : Own sz enc e w base v l) (h0 : 0 < l.length) : ∃ g cap, v = .slice (some ⟨g, 0, none⟩) l.length cap ∧ base ≤ g ∧ g < w.heap.size ∧ (∀ j, w.cell? ⟨g, j, none⟩ = (l.flatMap enc)[j]? ∨ l.length * sz ≤ j) ∧ ∀ j, w.frozen? ⟨g, j, none⟩ = false := by
  obtain ⟨_, hr⟩ := h
  obtain ⟨hl, hh⟩ := hr
  rcases hh with ⟨_, hn⟩ | ⟨g, cap, cur, rfl, hb, hg, hc, hm, hcs, ht⟩
  · omega
  · refine ⟨g, cap, rfl, hb, (Array.getElem?_eq_some_iff.1 hg).1, fun j => ?_, fun j => ?_⟩
    · by_cases hj : j < l.length * sz
      · exact .inl (World.ownsRow.cellAt ⟨hl, .inr ⟨g, cap, cur, rfl, hb, hg, hc, hm, hcs, ht⟩⟩ j hj)
      · exact .inr (by omega)
    · exact World.ownsRow.frozenAt ⟨hl, .inr ⟨g, cap, cur, rfl, hb, hg, hc, hm, hcs, ht⟩⟩ j

theorem Own.sl (hsz : ∀ x, (enc x).length = sz) {ao : Option Addr} {cap : Nat} (h : Own sz enc e w base (.slice ao l.length cap) l) : Sl sz enc w ao l := by
  intro h0
  obtain ⟨g, cap', hv, hb, hg, hc, _⟩ := h.addr h0
  cases hv
  refine ⟨g, 0, rfl, hg, fun i x j v hi hj => ?_⟩
  have hlt : i < l.length := (List.getElem?_eq_some_iff.1 hi).1
  have hj' : j < sz := by rw [← hsz x]; exact (List.getElem?_eq_some_iff.1 hj).1
  rcases hc (i * sz + j) with h1 | h1
  · rw [Nat.zero_add, h1]; exact flat_get hsz hi hj
  · exfalso
    have : (i + 1) * sz ≤ l.length * sz := Nat.mul_le_mul_right _ hlt
    rw [Nat.succ_mul] at this; omega

theorem Own.lt (h : Own sz enc e w base v l) : ∀ k, v.ownBlock = some k → base ≤ k ∧ k < w.heap.size := h.2.lt

theorem Own.later {w' : World} (h : Own sz enc e w base v l) (hb : Below w.heap.size w w') : Own sz enc e w' base v l := by
  obtain ⟨h1, hr⟩ := h
  refine ⟨h1, ?_⟩
  obtain ⟨hl, hh⟩ := hr
  refine ⟨hl, ?_⟩
  rcases hh with h | ⟨g, cap, cur, rfl, hbg, hg, r⟩
  · exact .inl h
  · exact .inr ⟨g, cap, cur, rfl, hbg, by rw [hb.block g (Array.getElem?_eq_some_iff.1 hg).1]; exact hg, r⟩

theorem Own.alloc (h : Own sz enc e w base v l) (o : Obj) : Own sz enc e (w.alloc o) base v l := ⟨h.1, h.2.alloc o⟩
theorem Own.drew (h : Own sz enc e w base v l) : Own sz enc e w.drew base v l := h
theorem Own.drewN (h : Own sz enc e w base v l) (n : Nat) : Own sz enc e (w.drewN n) base v l := h
theorem Own.base_le (h : Own sz enc e w base v l) {b : Nat} (hb : b ≤ base) : Own sz enc e w b v l := by
  obtain ⟨h1, hl, hh⟩ := h
  refine ⟨h1, hl, ?_⟩
  rcases hh with h | ⟨g, cap, cur, rfl, hbg, r⟩
  · exact .inl h
  · exact .inr ⟨g, cap, cur, rfl, by omega, r⟩

theorem Own.grown {w' : World} {v' : Value} {l2 : List α} (h : w'.ownsRow base e sz v' (l.length + l2.length) (l.flatMap enc ++ l2.flatMap enc)) : Own sz enc e w' base v' (l ++ l2) := by
  refine ⟨?_, by rw [List.length_append, List.flatMap_append]; exact h⟩
  rw [List.length_append]
  rcases h.2 with ⟨rfl, hn⟩ | ⟨g, cap, cur, rfl, _⟩
  · exact ⟨none, 0, by rw [hn]⟩
  · exact ⟨_, cap, rfl⟩

/-- An element changed in place. -/
theorem flat_set (hsz : ∀ x, (enc x).length = sz) : ∀ {l : List α} {k : Nat} {x y : α} {j : Nat} {u : Value}, l[k]? = some x → j < sz → enc y = (enc x).set j u → (l.set k y).flatMap enc = (l.flatMap enc).set (k * sz + j) u
  | [], k, x, y, j, u, h, _, _ => by simp at h
  | a :: l, 0, x, y, j, u, h, hj, hy => by
    have e : a = x := by simpa using h
    subst e
    rw [List.set_cons_zero, List.flatMap_cons, List.flatMap_cons, hy, Nat.zero_mul, Nat.zero_add, List.set_append_left _ _ (by rw [hsz]; exact hj)]
  | a :: l, k + 1, x, y, j, u, h, hj, hy => by
    have h' : l[k]? = some x := by simpa using h
    rw [List.set_cons_succ, List.flatMap_cons, List.flatMap_cons, flat_set hsz h' hj hy, List.set_append_right _ _ (by rw [hsz, Nat.succ_mul]; omega), hsz]
    congr 2
    rw [Nat.succ_mul]; omega

theorem Own.set (hsz : ∀ x, (enc x).length = sz) {g cap k j : Nat} {x y : α} {u : Value} (h : Own sz enc e w base (.slice (some ⟨g, 0, none⟩) l.length cap) l) (hk : l[k]? = some x) (hj : j < sz) (hy : enc y = (enc x).set j u) :
    Own sz enc e (w.setCell ⟨g, k * sz + j, none⟩ u) base (.slice (some ⟨g, 0, none⟩) l.length cap) (l.set k y) := by
  refine ⟨⟨_, cap, by rw [List.length_set]⟩, ?_⟩
  rw [List.length_set, flat_set hsz hk hj hy]
  exact (World.ownsRow.stored h.2 _ _).1

/-- Nothing below B is one of the row's cells: what an append leaves, below B. -/
theorem Own.below {w0 w' : World} (h : Own sz enc e w base v l) (hb : Below base w0 w) (hg : w.grownBy w' v.ownBlock) (hB : base ≤ w.heap.size) : Below base w0 w' :=
  hb.grown hg hB fun k hk => (h.lt k hk).1

theorem news_at {w : World} {cs : Array Value} {t : TypeId} {fr : Nat × Nat} {b : Nat} {l : List Value} (hb : b = w.heap.size) (hl : cs.toList = l) : ∀ (j : Nat) (u : Value), l[j]? = some u → (w.alloc (.cells cs t fr)).cell? ((⟨b, 0, none⟩ : Addr).add j) = some u := by
  subst hb hl
  intro j u h
  have h' : cs[j]? = some u := by simpa using h
  have e : ((⟨w.heap.size, 0, none⟩ : Addr).add j) = ⟨w.heap.size, j, none⟩ := by unfold Addr.add; split <;> simp_all
  rw [e]
  unfold World.cell?
  rw [heap_new]
  simp [h']

theorem wpList_append_one {P : Program} {ops : Array Oper} {rest : List Oper} {o : Oper} {a : Act} {Q : Exit → Act → World → Prop} {w0 : World} {bytes : Nat} (hsz : ∀ x, (enc x).length = sz) (s x : Operand) (t : TypeId) (i : TypeInfo) (z : Value) (hgd : o.guard = none)
    (ho : o.op = .call { callee := .builtin .append, args := #[s, x], argTypes := #[t, t] })
    (ht : P.underlying t = some (.slice e)) (hi : P.info? e = some i) (hz : i.zero = some z) (hsize : i.size = sz) (hby : i.bytes = bytes) (hzs : z.cells.size = sz) (hpos : 0 < sz) (hb100 : bytes ≤ 100)
    (hown : Own sz enc e w base v l) (hbel : Below base w0 w) (hB : base ≤ w.heap.size) (hlen : l.length + 1 ≤ 1000000000)
    (hs : a.eval s = v) (y : α) (ad : Addr) (c : Nat) (hx : a.eval x = .slice (some ad) 1 c)
    (hnews : ∀ (j : Nat) (u : Value), (enc y)[j]? = some u → w.cell? (ad.add j) = some u) (h1 : ∀ u ∈ enc y, u.oneCell' = true)
    (h : ∀ v' w', Own sz enc e w' base v' (l ++ [y]) → Below base w0 w' → w.grownBy w' v.ownBlock → (v'.ownBlock = v.ownBlock ∨ v'.ownBlock = some w.heap.size) → wpList P ops Q rest (a.put o.dst v') w') : wpList P ops Q (o :: rest) a w := by
  refine wpList_append_own_at _ hgd s x t ho base e i z sz bytes ht hi hz hsize hby hzs hpos v l.length _ hs hown.2 ad 1 c (enc y) hx (by rw [hsz]; omega) hnews h1 (by unfold maxLen; omega) ?_ hB ?_
  · have : (l.length + 1) * bytes ≤ 1000000000 * 100 := Nat.mul_le_mul hlen hb100
    omega
  · intro v' w' hr hg _ hat
    exact h v' w' (Own.grown (l2 := [y]) (by simpa using hr)) (hown.below hbel hg hB) hg hat
end


section
variable {α : Type} {sz : Nat} {enc : α → List Value} {e : TypeId} {w : World} {base : Nat} {v : Value} {l : List α}
/-- A store into another block. -/
theorem Own.setOther {a : Addr} (h : Own sz enc e w base v l) (hne : v.ownBlock ≠ some a.block) (u : Value) : Own sz enc e (w.setCell a u) base v l := by
  obtain ⟨h1, hl, hh⟩ := h
  refine ⟨h1, hl, ?_⟩
  rcases hh with h | ⟨g, cap, cur, rfl, hbg, hg, r⟩
  · exact .inl h
  · exact .inr ⟨g, cap, cur, rfl, hbg, by rw [Below.heap_setCell w a u g (fun e => hne (by rw [e]; rfl))]; exact hg, r⟩

theorem Own.len {a : Option Addr} {n cap : Nat} (h : Own sz enc e w base (.slice a n cap) l) : n = l.length := by
  obtain ⟨⟨ao, c, hv⟩, _⟩ := h
  cases hv; rfl
theorem Own.cellAt (hsz : ∀ x, (enc x).length = sz) {g n cap i j : Nat} {x : α} {u : Value} (h : Own sz enc e w base (.slice (some ⟨g, 0, none⟩) n cap) l) (hi : l[i]? = some x) (hj : (enc x)[j]? = some u) : w.cell? ⟨g, i * sz + j, none⟩ = some u := by
  obtain rfl := h.len
  obtain ⟨b, off, e1, _, hc⟩ := h.sl hsz (by have := (List.getElem?_eq_some_iff.1 hi).1; omega)
  cases e1
  simpa using hc i x j u hi hj
theorem Own.frozenAt {g n cap : Nat} (h : Own sz enc e w base (.slice (some ⟨g, 0, none⟩) n cap) l) (j : Nat) : w.frozen? ⟨g, j, none⟩ = false := by
  obtain rfl := h.len
  exact World.ownsRow.frozenAt h.2 j
theorem Own.set' (hsz : ∀ x, (enc x).length = sz) {g n cap k j : Nat} {x y : α} {u : Value} (h : Own sz enc e w base (.slice (some ⟨g, 0, none⟩) n cap) l) (hk : l[k]? = some x) (hj : j < sz) (hy : enc y = (enc x).set j u) :
    Own sz enc e (w.setCell ⟨g, k * sz + j, none⟩ u) base (.slice (some ⟨g, 0, none⟩) n cap) (l.set k y) := by
  obtain rfl := h.len
  exact Own.set hsz h hk hj hy
theorem Own.blk {g n cap : Nat} (h : Own sz enc e w base (.slice (some ⟨g, 0, none⟩) n cap) l) : base ≤ g ∧ g < w.heap.size := h.lt g rfl

theorem mid_get {A : List α} {n k : Nat} {x : α} (h : A.length = k) (hn : 0 < n) : (A ++ List.replicate n x)[k]? = some x := by
  rw [List.getElem?_append_right (by omega), List.getElem?_replicate, if_pos (by omega)]
theorem mid_set {A : List α} {n k : Nat} {x y : α} (h : A.length = k) (hn : 0 < n) : (A ++ List.replicate n x).set k y = (A ++ [y]) ++ List.replicate (n - 1) x := by
  obtain ⟨m, rfl⟩ : ∃ m, n = m + 1 := ⟨n - 1, by omega⟩
  rw [List.set_append_right _ _ (by omega), List.append_assoc, List.replicate_succ, show k - A.length = 0 by omega, List.set_cons_zero]
  rfl

theorem Own.lit {g : Nat} {cs : Array Value} (hsz : ∀ x, (enc x).length = sz) (hb : w.heap[g]? = some (.cells cs e (0, 0))) (hg : base ≤ g) (hc : cs.toList = l.flatMap enc) (hm : l.length ≤ maxLen) : Own sz enc e w base (.slice (some ⟨g, 0, none⟩) l.length l.length) l := by
  have hl : ∀ l : List α, (l.flatMap enc).length = l.length * sz := by
    intro l
    induction l with
    | nil => simp
    | cons a l ih => rw [List.flatMap_cons, List.length_append, ih, hsz, List.length_cons, Nat.succ_mul]; omega
  have hcs : cs.size = l.length * sz := by rw [← hl, ← hc]; simp
  exact ⟨⟨_, _, rfl⟩, hl l, .inr ⟨g, l.length, cs, rfl, hg, hb, Nat.le_refl _, hm, hcs, by rw [List.take_of_length_le (by simp [hcs]), hc]⟩⟩

theorem wpList_append_list {P : Program} {ops : Array Oper} {rest : List Oper} {o : Oper} {a : Act} {Q : Exit → Act → World → Prop} {w0 : World} {bytes : Nat} (hsz : ∀ x, (enc x).length = sz) (s x : Operand) (t : TypeId) (i : TypeInfo) (z : Value) (hgd : o.guard = none)
    (ho : o.op = .call { callee := .builtin .append, args := #[s, x], argTypes := #[t, t] })
    (ht : P.underlying t = some (.slice e)) (hi : P.info? e = some i) (hz : i.zero = some z) (hsize : i.size = sz) (hby : i.bytes = bytes) (hzs : z.cells.size = sz) (hpos : 0 < sz) (hb100 : bytes ≤ 100)
    (hown : Own sz enc e w base v l) (hbel : Below base w0 w) (hB : base ≤ w.heap.size) (l2 : List α) (hlen : l.length + l2.length ≤ 1000000000)
    (hs : a.eval s = v) (ad : Addr) (c m : Nat) (hm : m = l2.length) (hx : a.eval x = .slice (some ad) m c)
    (hnews : ∀ (j : Nat) (u : Value), (l2.flatMap enc)[j]? = some u → w.cell? (ad.add j) = some u) (h1 : ∀ u ∈ l2.flatMap enc, u.oneCell' = true)
    (h : ∀ v' w', Own sz enc e w' base v' (l ++ l2) → Below base w0 w' → w.grownBy w' v.ownBlock → (v'.ownBlock = v.ownBlock ∨ v'.ownBlock = some w.heap.size) → wpList P ops Q rest (a.put o.dst v') w') : wpList P ops Q (o :: rest) a w := by
  have hl : ∀ l : List α, (l.flatMap enc).length = l.length * sz := by
    intro l
    induction l with
    | nil => simp
    | cons a l ih => rw [List.flatMap_cons, List.length_append, ih, hsz, List.length_cons, Nat.succ_mul]; omega
  subst hm
  refine wpList_append_own_at _ hgd s x t ho base e i z sz bytes ht hi hz hsize hby hzs hpos v l.length _ hs hown.2 ad l2.length c (l2.flatMap enc) hx (hl l2) hnews h1 (by unfold maxLen; omega) ?_ hB ?_
  · have : (l.length + l2.length) * bytes ≤ 1000000000 * 100 := Nat.mul_le_mul hlen hb100
    omega
  · intro v' w' hr hg _ hat
    exact h v' w' (Own.grown hr) (hown.below hbel hg hB) hg hat

theorem one_flat (henc : ∀ x, ∀ u ∈ enc x, u.oneCell' = true) : ∀ u ∈ l.flatMap enc, u.oneCell' = true := by
  intro u hu
  obtain ⟨x, _, hx⟩ := List.mem_flatMap.1 hu
  exact henc x u hx
theorem one_int : ∀ x, ∀ u ∈ encInt x, u.oneCell' = true := fun x u h => by simp [encInt] at h; subst h; rfl
theorem one_bool : ∀ x, ∀ u ∈ encBool x, u.oneCell' = true := fun x u h => by simp [encBool] at h; subst h; rfl
theorem one_pair : ∀ x, ∀ u ∈ encP x, u.oneCell' = true := fun x u h => by simp [encP] at h; rcases h with h | h <;> subst h <;> rfl

theorem madeCells_list (hsz : ∀ x, (enc x).length = sz) (z : Value) (d : α) (hz : enc d = z.cells.toList) (n : Nat) (hs : z.cells.size = sz) : (madeCells z.cells (n * sz)).toList = (List.replicate n d).flatMap enc := by
  have hlen : ((List.replicate n d).flatMap enc).length = n * sz := by
    induction n with
    | zero => simp
    | succ n ih => rw [List.replicate_succ, List.flatMap_cons, List.length_append, ih, hsz, Nat.succ_mul]; omega
  apply List.ext_getElem?
  intro j
  by_cases hj : j < n * sz
  · have h0 : 0 < sz := by
      rcases Nat.eq_zero_or_pos sz with h | h
      · subst h; simp at hj
      · exact h
    have hi : j / sz < n := by
      rw [Nat.div_lt_iff_lt_mul h0]; exact hj
    have hm : j % sz < sz := Nat.mod_lt _ h0
    have hd : (enc d)[j % sz]? = some (z.cells[j % sz]'(by rw [hs]; exact hm)) := by
      rw [hz]; simp [hs, hm]
    have h1 := flat_get (enc := enc) hsz (l := List.replicate n d) (i := j / sz) (x := d) (by simp [hi]) hd
    rw [show j / sz * sz + j % sz = j by rw [Nat.mul_comm]; exact Nat.div_add_mod j sz] at h1
    rw [h1]
    simp [madeCells, hj, hs, hm]
  · rw [List.getElem?_eq_none (by simp [madeCells]; omega), List.getElem?_eq_none (by rw [hlen]; omega)]

theorem wpList_make_list {P : Program} {ops : Array Oper} {rest : List Oper} {o : Oper} {a : Act} {Q : Exit → Act → World → Prop} {w0 : World}
    (hsz : ∀ x, (enc x).length = sz) (lo c : Operand) (t : TypeId) (i : TypeInfo) (z : Value) (d : α) (n : Nat) (hg : o.guard = none) (hop : o.op = Op.makeSlice t lo c)
    (h1 : P.underlying t = some (.slice e)) (h2 : P.info? e = some i) (h3 : i.zero = some z) (h4 : i.size = sz) (hzs : z.cells.size = sz) (hz : enc d = z.cells.toList) (hby : i.bytes ≤ 100)
    (hl : a.eval lo = .int .i64 n) (hc : a.eval c = .int .i64 n) (hn : n ≤ 1000000000) (hbel : Below base w0 w) (hB : base ≤ w.heap.size)
    (hK : ∀ w', Own sz enc e w' base (.slice (some ⟨w.heap.size, 0, none⟩) n n) (List.replicate n d) → Below base w0 w' → Below w.heap.size w w' → w.heap.size < w'.heap.size → wpList P ops Q rest (a.put o.dst (.slice (some ⟨w.heap.size, 0, none⟩) n n)) w') :
    wpList P ops Q (o :: rest) a w := by
  refine wpList_make_full w hg lo c t hop base e i z sz h1 h2 h3 h4 .i64 .i64 n n n hl hc rfl rfl ?_ (by unfold maxLen; omega) hB ?_
  · have := Nat.mul_le_mul hby hn; omega
  · intro w' hr hgr
    have hlt : w.heap.size < w'.heap.size := by
      obtain ⟨_, hh⟩ := hr
      rcases hh with ⟨h, _⟩ | ⟨g, cap, cur, h, _, hg, _⟩
      · cases h
      · cases h; exact (Array.getElem?_eq_some_iff.1 hg).1
    have hb2 : Below w.heap.size w w' := (Below.refl _ _).grown hgr (Nat.le_refl _) (fun k h => by cases h)
    refine hK w' ⟨⟨_, n, by rw [List.length_replicate]⟩, ?_⟩ (hbel.grown hgr hB fun k h => by cases h) hb2 hlt
    rw [List.length_replicate, ← madeCells_list hsz z d hz n hzs]; exact hr
end

/-- A region that draws: still operations first, in the order of the text; then a tail that is a chain. -/
theorem still_tail {P : Program} {id : Nat} {Q : Exit → Act → World → Prop} {a : Act} {w : World} {l : List Oper} (n : Nat) (hm : P.follows .mixedOrders = true) (hB : Region.lexTailB .any l.toArray n = true)
    (h : wpStill P l.toArray w.drew (fun a' => wpList P l.toArray Q (l.drop n) a' w.drew) (l.take n) a) : (Code.region id l.toArray true).wp P Q a w :=
  wp_region_still_tail n hm hB h

/-- w' is w but for the blocks of S and new ones. -/
structure KeptBut (S : Nat → Prop) (w w' : World) : Prop where
  os : w'.os = w.os
  tape : w'.tape = w.tape
  output : w'.output = w.output
  size : w.heap.size ≤ w'.heap.size
  block : ∀ k, k < w.heap.size → ¬ S k → w'.heap[k]? = w.heap[k]?
section
variable {S T : Nat → Prop} {w w' w'' : World}
theorem KeptBut.refl (S : Nat → Prop) (w : World) : KeptBut S w w := ⟨rfl, rfl, rfl, Nat.le_refl _, fun _ _ _ => rfl⟩
theorem KeptBut.trans (h : KeptBut S w w') (k : KeptBut S w' w'') : KeptBut S w w'' :=
  ⟨k.os.trans h.os, k.tape.trans h.tape, k.output.trans h.output, Nat.le_trans h.size k.size, fun i hi hs => (k.block i (by have := h.size; omega) hs).trans (h.block i hi hs)⟩
theorem KeptBut.mono (h : KeptBut S w w') (hs : ∀ k, S k → T k) : KeptBut T w w' := ⟨h.os, h.tape, h.output, h.size, fun k hk ht => h.block k hk fun h' => ht (hs k h')⟩
theorem KeptBut.of_below {B : Nat} (h : Below B w w') (hB : w.heap.size ≤ B) : KeptBut S w w' := ⟨h.os, h.tape, h.output, h.size, fun k hk _ => h.block k (by omega)⟩
theorem KeptBut.setCell (h : KeptBut S w w') {p : Addr} (hp : S p.block) (u : Value) : KeptBut S w (w'.setCell p u) :=
  h.trans ⟨rfl, rfl, rfl, by simp [World.setCell], fun k _ hs => Below.heap_setCell _ _ _ _ (fun e => hs (by rw [e]; exact hp))⟩
theorem KeptBut.setNew (h : KeptBut S w w') {p : Addr} (hp : w.heap.size ≤ p.block) (u : Value) : KeptBut S w (w'.setCell p u) :=
  ⟨h.os, h.tape, h.output, by simpa [World.setCell] using h.size, fun k hk hs => (Below.heap_setCell w' p u k (by omega)).trans (h.block k hk hs)⟩
theorem KeptBut.alloc (h : KeptBut S w w') (o : Obj) : KeptBut S w (w'.alloc o) :=
  h.trans ⟨rfl, rfl, rfl, by simp, fun k hk _ => Below.heap_alloc _ _ _ hk⟩
theorem KeptBut.drewN (h : KeptBut S w w') (n : Nat) : KeptBut S w (w'.drewN n) := h.trans ⟨rfl, rfl, rfl, Nat.le_refl _, fun _ _ _ => rfl⟩
theorem KeptBut.drew (h : KeptBut S w w') : KeptBut S w w'.drew := h.trans ⟨rfl, rfl, rfl, Nat.le_refl _, fun _ _ _ => rfl⟩
theorem KeptBut.below (h : KeptBut S w w') {B : Nat} (hS : ∀ k, S k → B ≤ k) (hB : B ≤ w.heap.size) : Below B w w' := ⟨h.os, h.tape, h.output, h.size, fun k hk => h.block k (by omega) fun h' => by have := hS k h'; omega⟩
theorem KeptBut.of_grown {row : Option Nat} (hg : w.grownBy w' row) (hr : ∀ k, row = some k → S k) : KeptBut S w w' :=
  ⟨hg.os, hg.tape, hg.output, hg.size, fun k hk hs => hg.block k hk fun e => hs (hr k e.symm)⟩
theorem KeptBut.grown {row : Option Nat} (h : KeptBut S w w') (hg : w'.grownBy w'' row) (hr : ∀ k, row = some k → w.heap.size ≤ k) : KeptBut S w w'' :=
  ⟨hg.os.trans h.os, hg.tape.trans h.tape, hg.output.trans h.output, Nat.le_trans h.size hg.size, fun k hk hs => (hg.block k (by have := h.size; omega) fun e => by have := hr k e.symm; omega).trans (h.block k hk hs)⟩
theorem KeptBut.cell (h : KeptBut S w w') {a : Addr} {v : Value} (hc : w.cell? a = some v) (hs : ¬ S a.block) : w'.cell? a = some v := by
  rw [World.cell?_of_block (h.block a.block (World.block_lt_of_cell? w a hc) hs)]; exact hc
theorem KeptBut.own {α : Type} {sz : Nat} {enc : α → List Value} {e : TypeId} {base : Nat} {v : Value} {l : List α} (h : KeptBut S w w') (ho : Own sz enc e w base v l) (hs : ∀ k, v.ownBlock = some k → ¬ S k) : Own sz enc e w' base v l := by
  obtain ⟨h1, hl, hh⟩ := ho
  refine ⟨h1, hl, ?_⟩
  rcases hh with hh | ⟨g, cap, cur, rfl, hbg, hg, r⟩
  · exact .inl hh
  · exact .inr ⟨g, cap, cur, rfl, hbg, by rw [h.block g (Array.getElem?_eq_some_iff.1 hg).1 (hs g rfl)]; exact hg, r⟩
end

/-- Block b holds the cells cs; none of it is frozen. -/
def Bk (w : World) (b : Nat) (cs : List Value) : Prop := b < w.heap.size ∧ (∀ (j : Nat) v, cs[j]? = some v → w.cell? ⟨b, j, none⟩ = some v) ∧ ∀ j, w.frozen? ⟨b, j, none⟩ = false
theorem Bk.lt {w : World} {b : Nat} {cs : List Value} (h : Bk w b cs) : b < w.heap.size := h.1
theorem Bk.get {w : World} {b : Nat} {cs : List Value} (h : Bk w b cs) {j : Nat} {v : Value} (hj : cs[j]? = some v) : w.cell? ⟨b, j, none⟩ = some v := h.2.1 j v hj
theorem Bk.fz {w : World} {b : Nat} {cs : List Value} (h : Bk w b cs) (j : Nat) : w.frozen? ⟨b, j, none⟩ = false := h.2.2 j
theorem Bk.kept {S : Nat → Prop} {w w' : World} {b : Nat} {cs : List Value} (h : Bk w b cs) (k : KeptBut S w w') (hs : ¬ S b) : Bk w' b cs :=
  ⟨Nat.lt_of_lt_of_le h.1 k.size, fun j v hj => k.cell (h.2.1 j v hj) hs, fun j => by rw [World.frozen?_of_block (k.block b h.1 hs)]; exact h.2.2 j⟩
theorem Bk.later {w w' : World} {b : Nat} {cs : List Value} (h : Bk w b cs) (k : Below w.heap.size w w') : Bk w' b cs := h.kept (KeptBut.of_below (S := fun _ => False) k (Nat.le_refl _)) id
theorem Bk.alloc {w : World} {b : Nat} {cs : List Value} (h : Bk w b cs) (o : Obj) : Bk (w.alloc o) b cs := h.later ((Below.refl _ _).alloc (Nat.le_refl _) _)
theorem Bk.new {w : World} {cs : Array Value} {t : TypeId} {l : List Value} (hl : cs.toList = l) : Bk (w.alloc (.cells cs t)) w.heap.size l := by
  have e := heap_new w (.cells cs t)
  refine ⟨by simp, fun j v hj => ?_, fun j => ?_⟩
  · subst hl
    simp only [World.cell?]
    rw [e]
    simpa using hj
  · unfold World.frozen?
    rw [e]
    simp
theorem Bk.at {w w' : World} {b : Nat} {l : List Value} (h : Bk w b l) (e : w = w') : Bk w' b l := e ▸ h
theorem below_alloc {w w' : World} {B : Nat} (h : Below B w w') (hB : B ≤ w'.heap.size) (o : Obj) : Below B w (w'.alloc o) := h.alloc hB o

/-- the first one that is p; -1: none is -/
def firstI {α : Type} (p : α → Bool) (l : List α) : Int := match l.findIdx? p with
  | some i => i
  | none => -1
theorem firstI_some {α : Type} {p : α → Bool} {l : List α} {k : Nat} {x : α} (h : l[k]? = some x) (hp : p x = true) (hn : ∀ (i : Nat) y, i < k → l[i]? = some y → p y = false) : firstI p l = k := by
  unfold firstI
  have hlt := (List.getElem?_eq_some_iff.1 h).1
  have : l.findIdx? p = some k := by
    rw [List.findIdx?_eq_some_iff_getElem]
    refine ⟨hlt, by rw [(List.getElem?_eq_some_iff.1 h).2]; exact hp, fun j hj => ?_⟩
    have := hn j l[j] hj (List.getElem?_eq_getElem _)
    simp [this]
  rw [this]
theorem firstI_none {α : Type} {p : α → Bool} {l : List α} (hn : ∀ (i : Nat) y, i < l.length → l[i]? = some y → p y = false) : firstI p l = -1 := by
  unfold firstI
  have : l.findIdx? p = none := by
    rw [List.findIdx?_eq_none_iff]
    intro x hx
    obtain ⟨i, hi⟩ := List.getElem?_of_mem hx
    exact hn i x (List.getElem?_eq_some_iff.1 hi).1 hi
  rw [this]
theorem firstI_any {α : Type} (p : α → Bool) (l : List α) : decide (0 ≤ firstI p l) = l.any p := by
  unfold firstI
  cases h : l.findIdx? p with
  | none =>
    rw [List.findIdx?_eq_none_iff] at h
    simp only [show ¬ (0 : Int) ≤ -1 by decide, decide_false]
    symm
    rw [List.any_eq_false]
    exact fun x hx => by simp [h x hx]
  | some i =>
    rw [List.findIdx?_eq_some_iff_getElem] at h
    obtain ⟨hlt, hp, _⟩ := h
    have : l.any p = true := List.any_eq_true.2 ⟨l[i], List.getElem_mem _, hp⟩
    rw [this]
    simp
theorem firstI_lt {α : Type} (p : α → Bool) (l : List α) : -1 ≤ firstI p l ∧ firstI p l < l.length ∨ l = [] ∧ firstI p l = -1 := by
  unfold firstI
  cases h : l.findIdx? p with
  | none =>
    cases l
    · right; exact ⟨rfl, rfl⟩
    · left; simp; omega
  | some i =>
    rw [List.findIdx?_eq_some_iff_getElem] at h
    obtain ⟨hlt, _, _⟩ := h
    left
    simp; omega

/-- append of one element to a slice of the call's own, as one step of a region that draws -/
theorem step_append_one {α : Type} {sz : Nat} {enc : α → List Value} {e : TypeId} {w : World} {base : Nat} {v : Value} {l : List α} {P : Program} {ops : Array Oper} {o : Oper} {a : Act} {K : Act → World → Prop} {Q : Exit → Act → World → Prop} {E : Prop} {w0 : World} {bytes : Nat} (hsz : ∀ x, (enc x).length = sz) (s x : Operand) (t : TypeId) (i : TypeInfo) (z : Value) (hgd : o.guard = none)
    (ho : o.op = .call { callee := .builtin .append, args := #[s, x], argTypes := #[t, t] })
    (ht : P.underlying t = some (.slice e)) (hi : P.info? e = some i) (hz : i.zero = some z) (hsize : i.size = sz) (hby : i.bytes = bytes) (hzs : z.cells.size = sz) (hpos : 0 < sz) (hb100 : bytes ≤ 100)
    (hown : Own sz enc e w base v l) (hbel : Below base w0 w) (hB : base ≤ w.heap.size) (hlen : l.length + 1 ≤ 1000000000)
    (hs : a.eval s = v) (y : α) (ad : Addr) (c : Nat) (hx : a.eval x = .slice (some ad) 1 c)
    (hnews : ∀ (j : Nat) (u : Value), (enc y)[j]? = some u → w.cell? (ad.add j) = some u) (h1 : ∀ u ∈ enc y, u.oneCell' = true)
    (h : ∀ v' w', Own sz enc e w' base v' (l ++ [y]) → Below base w0 w' → w.grownBy w' v.ownBlock → (v'.ownBlock = v.ownBlock ∨ v'.ownBlock = some w.heap.size) → K (a.put o.dst v') w') :
    if Region.wanted o (yielded ops a.tmps) = true then Oper.wp P o a w K Q else E := by
  have hw : Region.wanted o (yielded ops a.tmps) = true := by simp [Region.wanted, hgd]
  rw [if_pos hw]
  have hb : (l.length + 1) * bytes ≤ 1000000000 * 100 := Nat.mul_le_mul hlen hb100
  obtain ⟨v', w', hr, h2, h3, _, h5⟩ := run_append_own_at (P := P) w base t o.type e i z sz bytes ht hi hz hsize hby hzs hpos v l.length _ hown.2 ad 1 c (enc y) (by rw [hsz]; omega) hnews h1 (by unfold maxLen; omega) (by omega) hB
  unfold Oper.wp execOp
  simp only [ho, resolve, invoke, builtin, Sem.run_bind, Sem.run_pure, Result.andThen_ok, List.map_toArray, List.map_cons, List.map_nil, hs, hx, hr]
  exact h v' w' (Own.grown (l2 := [y]) (by simpa using h2)) (hown.below hbel h3 hB) h3 h5
theorem Bk.set {w : World} {b k : Nat} {cs : List Value} {u : Value} (h : Bk w b cs) (v : Value) (hk : cs[k]? = some u) : Bk (w.setCell ⟨b, k, none⟩ v) b (cs.set k v) := by
  refine ⟨by simpa [World.setCell] using h.1, fun j x hj => ?_, fun j => by rw [World.frozen?_setCell]; exact h.2.2 j⟩
  by_cases e : k = j
  · subst e
    rw [List.getElem?_set_self (List.getElem?_eq_some_iff.1 hk).1] at hj
    cases hj
    exact cellSetS (h.get hk)
  · rw [List.getElem?_set_ne e] at hj
    exact cellSetO (h.get hj) (fun e' => e (by cases e'; rfl))
theorem Bk.setO {w : World} {b : Nat} {cs : List Value} (h : Bk w b cs) {p : Addr} (hp : p.block ≠ b) (v : Value) : Bk (w.setCell p v) b cs :=
  h.kept (S := fun q => q = p.block) ((KeptBut.refl (fun q => q = p.block) w).setCell rfl v) (fun e => hp e.symm)
end Go.Proofs.YtgeedjlbajmdkaaGreatDoor
/- Plain laws of texts: what stands ahead of a byte, what between such bytes; words. -/
namespace Go.Proofs.YtgeedjlbajmdkaaGreatDoor
open Go.RowKit

/-- a text of these bytes -/
def tx (l : List UInt8) : ByteArray := ⟨l.toArray⟩
theorem tx_list (l : List UInt8) : (tx l).data.toList = l := by simp [tx]
theorem tx_of (s : ByteArray) : tx s.data.toList = s := by cases s; simp [tx]
theorem tx_inj {a b : List UInt8} (h : tx a = tx b) : a = b := by rw [← tx_list a, h, tx_list]
theorem tx_size (l : List UInt8) : (tx l).size = l.length := by simp [tx, ByteArray.size]

/-- what stands ahead of the first c, and behind it -/
def cutAt (c : UInt8) : List UInt8 → List UInt8 × List UInt8 × Bool
  | [] => ([], [], false)
  | b :: l => if b = c then ([], l, true) else (b :: (cutAt c l).1, (cutAt c l).2.1, (cutAt c l).2.2)
/-- what stands between -/
def splitAt (c : UInt8) : List UInt8 → List (List UInt8)
  | [] => [[]]
  | b :: l => if b = c then [] :: splitAt c l else match splitAt c l with
    | h :: t => (b :: h) :: t
    | [] => [[b]]
theorem splitAt_ne (c : UInt8) (l : List UInt8) : splitAt c l ≠ [] := by
  cases l with
  | nil => simp [splitAt]
  | cons b l =>
    unfold splitAt
    split
    · simp
    · split <;> simp
theorem occ_one (c : UInt8) (l : List UInt8) (j : Nat) : Lib.occAt l [c] j = (l[j]? == some c) := by
  unfold Lib.occAt
  cases h : l.drop j with
  | nil =>
    have hl : l.length ≤ j := by simpa using h
    rw [List.getElem?_eq_none hl]; simp
  | cons b t =>
    have hb : l[j]? = some b := by
      have := congrArg List.head? h
      rw [List.head?_drop] at this
      simpa using this
    rw [hb]
    by_cases e : c = b
    · subst e; simp
    · have e1 : (c == b) = false := by simpa using e
      have e2 : (b == c) = false := by simp; exact fun h => e h.symm
      simp [List.isPrefixOf, e1, e2]
theorem index_no {c : UInt8} {l : List UInt8} (h : c ∉ l) : Lib.index l [c] = -1 := by
  refine Lib.index_none fun j _ => ?_
  rw [occ_one]
  cases hj : l[j]? with
  | none => rfl
  | some b =>
    have : b ≠ c := fun e => h (e ▸ List.mem_of_getElem? hj)
    simp [this]
theorem index_yes {c : UInt8} {A B : List UInt8} (h : c ∉ A) : Lib.index (A ++ c :: B) [c] = A.length := by
  refine Lib.index_first (by simp) ?_ fun j hj => ?_
  · rw [occ_one, List.getElem?_append_right (Nat.le_refl _)]; simp
  · rw [occ_one, List.getElem?_append_left hj]
    have hx : A[j]? = some A[j] := List.getElem?_eq_getElem hj
    rw [hx]
    have : A[j] ≠ c := fun e => h (e ▸ List.getElem_mem hj)
    simp [this]
theorem first_of (c : UInt8) : ∀ (l : List UInt8), c ∉ l ∨ ∃ A B, l = A ++ c :: B ∧ c ∉ A
  | [] => .inl (by simp)
  | b :: l => by
    by_cases e : b = c
    · subst e; exact .inr ⟨[], l, rfl, by simp⟩
    · rcases first_of c l with h | ⟨A, B, h, hA⟩
      · refine .inl ?_
        rw [List.mem_cons]
        rintro (h2 | h2)
        · exact e h2.symm
        · exact h h2
      · refine .inr ⟨b :: A, B, by rw [h]; rfl, ?_⟩
        rw [List.mem_cons]
        rintro (h2 | h2)
        · exact e h2.symm
        · exact hA h2
theorem cutAt_no {c : UInt8} : ∀ {l : List UInt8}, c ∉ l → cutAt c l = (l, [], false)
  | [], _ => rfl
  | b :: l, h => by
    rw [List.mem_cons, not_or] at h
    unfold cutAt
    rw [if_neg (fun e => h.1 e.symm), cutAt_no h.2]
theorem cutAt_yes {c : UInt8} : ∀ {A B : List UInt8}, c ∉ A → cutAt c (A ++ c :: B) = (A, B, true)
  | [], B, _ => by simp [cutAt]
  | a :: A, B, h => by
    rw [List.mem_cons, not_or] at h
    rw [List.cons_append]
    unfold cutAt
    rw [if_neg (fun e => h.1 e.symm), cutAt_yes h.2]
theorem cut_eq (c : UInt8) (l : List UInt8) : Lib.cut l [c] = cutAt c l := by
  unfold Lib.cut
  rcases first_of c l with h | ⟨A, B, rfl, hA⟩
  · rw [index_no h, cutAt_no h, if_neg (by omega)]
  · rw [index_yes hA, cutAt_yes hA, if_pos (by omega)]
    simp
theorem splitAt_no {c : UInt8} : ∀ {l : List UInt8}, c ∉ l → splitAt c l = [l]
  | [], _ => rfl
  | b :: l, h => by
    rw [List.mem_cons, not_or] at h
    unfold splitAt
    rw [if_neg (fun e => h.1 e.symm), splitAt_no h.2]
theorem splitAt_yes {c : UInt8} : ∀ {A B : List UInt8}, c ∉ A → splitAt c (A ++ c :: B) = A :: splitAt c B
  | [], B, _ => by simp [splitAt]
  | a :: A, B, h => by
    rw [List.mem_cons, not_or] at h
    rw [List.cons_append]
    conv => lhs; unfold splitAt
    rw [if_neg (fun e => h.1 e.symm), splitAt_yes h.2]
theorem splitK_eq (c : UInt8) : ∀ (n : Nat) (l : List UInt8), l.length ≤ n → Lib.splitK [c] 0 (Lib.count l [c]) l = splitAt c l := by
  intro n
  induction n with
  | zero =>
    intro l hl
    have : l = [] := List.length_eq_zero_iff.1 (by omega)
    subst this
    rw [Lib.count_miss (index_no (by simp))]; rfl
  | succ n ih =>
    intro l hl
    rcases first_of c l with h | ⟨A, B, rfl, hA⟩
    · rw [Lib.count_miss (index_no h), splitAt_no h]; rfl
    · have hi := index_yes (B := B) hA
      rw [Lib.count_hit (by simp) hi, splitAt_yes hA, Nat.add_comm, Lib.splitK, if_neg (by rw [hi]; simp), hi]
      have e : (A ++ c :: B).drop (((A.length : Nat) : Int).toNat + [c].length) = B := by
        rw [Int.toNat_natCast, List.length_singleton, List.drop_append]
        simp
      have e2 : (A ++ c :: B).drop (A.length + [c].length) = B := by simp
      rw [e, e2, ih B (by simp at hl; omega)]
      simp
theorem splitB_eq (c : UInt8) (s : ByteArray) : Lib.splitB (tx [c]) 0 (Lib.countB s (tx [c])) s = (splitAt c s.data.toList).map tx := by
  have h := Lib.splitB_data (tx [c]) 0 (Lib.countB s (tx [c])) s
  have hc : Lib.countB s (tx [c]) = Lib.count s.data.toList [c] := by rw [show Lib.countB s (tx [c]) = Lib.count s.data.toList (tx [c]).data.toList from rfl, tx_list]
  rw [tx_list, hc, splitK_eq c _ _ (Nat.le_refl _)] at h
  rw [← h, List.map_map, hc]
  conv => lhs; rw [← List.map_id (Lib.splitB (tx [c]) 0 (Lib.count s.data.toList [c]) s)]
  refine List.map_congr_left fun x _ => ?_
  exact (tx_of x).symm

/-- words: what stands between blanks and is not empty -/
def wordsL (l : List UInt8) : List (List UInt8) := (splitAt 32 l).filter fun w => !w.isEmpty
/-- one byte more: the words that are whole, the one that is begun -/
def wstep (st : List (List UInt8) × List UInt8) (c : UInt8) : List (List UInt8) × List UInt8 := if c = 32 then (if st.2.isEmpty then st.1 else st.1 ++ [st.2], []) else (st.1, st.2 ++ [c])
def wend (st : List (List UInt8) × List UInt8) : List (List UInt8) := if st.2.isEmpty then st.1 else st.1 ++ [st.2]
theorem words_fold : ∀ (l : List UInt8) (ws : List (List UInt8)) (w : List UInt8), wend (l.foldl wstep (ws, w)) = ws ++ ((match splitAt 32 l with
    | h :: t => (w ++ h) :: t
    | [] => []).filter fun w => !w.isEmpty)
  | [], ws, w => by
    simp only [List.foldl_nil, wend, splitAt, List.append_nil]
    cases w <;> simp
  | b :: l, ws, w => by
    rw [List.foldl_cons]
    by_cases e : b = 32
    · subst e
      have h1 : wstep (ws, w) 32 = (if w.isEmpty then ws else ws ++ [w], []) := by simp [wstep]
      rw [h1, words_fold l]
      have h2 : splitAt 32 (32 :: l) = [] :: splitAt 32 l := by simp [splitAt]
      rw [h2]
      cases hs : splitAt 32 l with
      | nil => exact absurd hs (splitAt_ne _ _)
      | cons h t =>
        cases w <;> simp [List.filter_cons]
    · have h1 : wstep (ws, w) b = (ws, w ++ [b]) := by simp [wstep, e]
      rw [h1, words_fold l]
      cases hs : splitAt 32 l with
      | nil => exact absurd hs (splitAt_ne _ _)
      | cons h t =>
        have h2 : splitAt 32 (b :: l) = (b :: h) :: t := by unfold splitAt; rw [if_neg e, hs]
        rw [h2]; simp
theorem words_eq (l : List UInt8) : wend (l.foldl wstep ([], [])) = wordsL l := by
  rw [words_fold]
  unfold wordsL
  cases hs : splitAt 32 l with
  | nil => exact absurd hs (splitAt_ne _ _)
  | cons h t => simp
end Go.Proofs.YtgeedjlbajmdkaaGreatDoor
/- Plain laws of words: they have no blanks; with one blank between they are read again. -/
namespace Go.Proofs.YtgeedjlbajmdkaaGreatDoor
open Go.RowKit

theorem splitAt_app (c : UInt8) : ∀ (A B : List UInt8), splitAt c (A ++ c :: B) = splitAt c A ++ splitAt c B
  | [], B => by simp [splitAt]
  | a :: A, B => by
    rw [List.cons_append]
    have ih := splitAt_app c A B
    by_cases e : a = c
    · subst e
      have h1 : splitAt a (a :: (A ++ a :: B)) = [] :: splitAt a (A ++ a :: B) := by conv => lhs; unfold splitAt; rw [if_pos rfl]
      have h2 : splitAt a (a :: A) = [] :: splitAt a A := by conv => lhs; unfold splitAt; rw [if_pos rfl]
      rw [h1, h2, ih]; rfl
    · cases hs : splitAt c A with
      | nil => exact absurd hs (splitAt_ne _ _)
      | cons h t =>
        have h2 : splitAt c (a :: A) = (a :: h) :: t := by unfold splitAt; rw [if_neg e, hs]
        have h1 : splitAt c (a :: (A ++ c :: B)) = (a :: h) :: (t ++ splitAt c B) := by
          conv => lhs; unfold splitAt
          rw [if_neg e, ih, hs]; rfl
        rw [h1, h2]; rfl
theorem words_app (A B : List UInt8) : wordsL (A ++ 32 :: B) = wordsL A ++ wordsL B := by
  unfold wordsL
  rw [splitAt_app, List.filter_append]
theorem splitAt_mem {c : UInt8} : ∀ {l w : List UInt8}, w ∈ splitAt c l → c ∉ w ∧ w.length ≤ l.length
  | [], w, h => by simp [splitAt] at h; subst h; simp
  | b :: l, w, h => by
    unfold splitAt at h
    by_cases e : b = c
    · rw [if_pos e] at h
      rcases List.mem_cons.1 h with h | h
      · subst h; simp
      · obtain ⟨h1, h2⟩ := splitAt_mem h
        exact ⟨h1, by simp; omega⟩
    · rw [if_neg e] at h
      cases hs : splitAt c l with
      | nil => exact absurd hs (splitAt_ne _ _)
      | cons x t =>
        rw [hs] at h
        rcases List.mem_cons.1 h with h | h
        · subst h
          obtain ⟨h1, h2⟩ := splitAt_mem (w := x) (by rw [hs]; exact List.mem_cons_self)
          exact ⟨fun h => by
            rcases List.mem_cons.1 h with h | h
            · exact e h.symm
            · exact h1 h, by simp; omega⟩
        · obtain ⟨h1, h2⟩ := splitAt_mem (w := w) (by rw [hs]; exact List.mem_cons_of_mem _ h)
          exact ⟨h1, by simp; omega⟩
theorem words_mem {l w : List UInt8} (h : w ∈ wordsL l) : 32 ∉ w ∧ w.length ≤ l.length ∧ w ≠ [] := by
  unfold wordsL at h
  rw [List.mem_filter] at h
  obtain ⟨h1, h2⟩ := splitAt_mem h.1
  exact ⟨h1, h2, by rintro rfl; simp at h⟩
theorem words_len (l : List UInt8) : (wordsL l).length ≤ l.length + 1 := by
  unfold wordsL
  refine Nat.le_trans (List.length_filter_le _ _) ?_
  induction l with
  | nil => simp [splitAt]
  | cons b l ih =>
    unfold splitAt
    split
    · simp; omega
    · split
      · rename_i h t e
        rw [e] at ih
        simp at ih ⊢; omega
      · simp
/-- words with a blank behind each -/
def blanked (ws : List (List UInt8)) : List UInt8 := ws.flatMap fun w => w ++ [32]
theorem words_one {w r : List UInt8} (h : 32 ∉ w) (h0 : w ≠ []) : wordsL (w ++ 32 :: r) = w :: wordsL r := by
  unfold wordsL
  rw [splitAt_yes h, List.filter_cons_of_pos]
  cases w with
  | nil => exact absurd rfl h0
  | cons a t => rfl
theorem words_blanked : ∀ (ws : List (List UInt8)), (∀ w ∈ ws, 32 ∉ w ∧ w ≠ []) → wordsL (blanked ws) = ws
  | [], _ => rfl
  | w :: ws, h => by
    have h1 := h w List.mem_cons_self
    have e : blanked (w :: ws) = w ++ 32 :: blanked ws := by simp [blanked]
    rw [e, words_one h1.1 h1.2, words_blanked ws fun x hx => h x (List.mem_cons_of_mem _ hx)]
theorem blanked_take_succ {ws : List (List UInt8)} {k : Nat} {w : List UInt8} (h : ws[k]? = some w) : blanked (ws.take (k + 1)) = blanked (ws.take k) ++ w ++ [32] := by
  obtain ⟨hlt, hx⟩ := List.getElem?_eq_some_iff.1 h
  unfold blanked
  rw [List.take_succ_eq_append_getElem hlt, hx, List.flatMap_append]
  simp
theorem blanked_len {ws : List (List UInt8)} {n : Nat} (h : ∀ w ∈ ws, w.length ≤ n) (k : Nat) : (blanked (ws.take k)).length ≤ k * (n + 1) := by
  induction k with
  | zero => simp [blanked]
  | succ k ih =>
    by_cases hk : k < ws.length
    · have hw : ws[k]? = some ws[k] := List.getElem?_eq_getElem hk
      rw [blanked_take_succ hw, Nat.succ_mul]
      have := h _ (List.mem_of_getElem? hw)
      simp; omega
    · rw [List.take_of_length_le (by omega)]
      rw [List.take_of_length_le (by omega)] at ih
      rw [Nat.succ_mul]; omega
end Go.Proofs.YtgeedjlbajmdkaaGreatDoor
/- A made slice of slices of pairs, each of which grows: the rows of a job's slices. -/
namespace Go.Proofs.YtgeedjlbajmdkaaGreatDoor
open Go.RowKit

/-- the rows that lie in block ob -/
structure Rws (w : World) (base ob : Nat) (vs : List Value) (ls : List (List Pr)) : Prop where
  bk : Bk w ob vs
  len : vs.length = ls.length
  lo : base ≤ ob
  own : ∀ (i : Nat) v l, vs[i]? = some v → ls[i]? = some l → Own 2 encP 101 w base v l
  ne : ∀ (i : Nat) v, vs[i]? = some v → v.ownBlock ≠ some ob
  apart : ∀ (i j : Nat) u v q, i ≠ j → vs[i]? = some u → vs[j]? = some v → u.ownBlock = some q → v.ownBlock ≠ some q
theorem Rws.later {w w' : World} {base ob : Nat} {vs : List Value} {ls : List (List Pr)} (h : Rws w base ob vs ls) (hb : Below w.heap.size w w') : Rws w' base ob vs ls :=
  ⟨h.bk.later hb, h.len, h.lo, fun i v l a b => (h.own i v l a b).later hb, h.ne, h.apart⟩
theorem Rws.row {w : World} {base ob : Nat} {vs : List Value} {ls : List (List Pr)} (h : Rws w base ob vs ls) {k : Nat} (hk : k < ls.length) : ∃ v l, vs[k]? = some v ∧ ls[k]? = some l ∧ Own 2 encP 101 w base v l ∧ w.cell? ⟨ob, k, none⟩ = some v := by
  have hkv : k < vs.length := by have h1 := h.len; omega
  have hv : vs[k]? = some vs[k] := List.getElem?_eq_getElem hkv
  have hl : ls[k]? = some ls[k] := List.getElem?_eq_getElem hk
  exact ⟨_, _, hv, hl, h.own k _ _ hv hl, h.bk.get hv⟩
/-- one row more: a new value of row k -/
theorem Rws.put {W A w1 : World} {base ob k : Nat} {vs : List Value} {ls : List (List Pr)} {v v' : Value} {l l' : List Pr} (h : Rws W base ob vs ls) (hv : vs[k]? = some v) (hA : Below W.heap.size W A) (hs : W.heap.size ≤ A.heap.size)
    (ho : Own 2 encP 101 w1 base v' l') (hg : A.grownBy w1 v.ownBlock) (hat : ∀ q, v'.ownBlock = some q → v.ownBlock = some q ∨ W.heap.size ≤ q) :
    Rws (w1.setCell ⟨ob, k, none⟩ v') base ob (vs.set k v') (ls.set k l') ∧ w1.frozen? ⟨ob, k, none⟩ = false ∧ w1.cell? ⟨ob, k, none⟩ = some v := by
  have hk1 : KeptBut (fun q => v.ownBlock = some q) A w1 := KeptBut.of_grown hg fun q e => e
  have hbA := h.bk.later hA
  have hb1 := hbA.kept hk1 (h.ne k v hv)
  have hob := h.bk.lt
  have hkl : k < vs.length := (List.getElem?_eq_some_iff.1 hv).1
  have hv'ob : v'.ownBlock ≠ some ob := fun e => by
    rcases hat _ e with e2 | hm
    · exact h.ne k v hv e2
    · omega
  have hlt : ∀ (i : Nat) u q, vs[i]? = some u → u.ownBlock = some q → q < W.heap.size := fun i u q hu hq => by
    have hil : i < ls.length := by have h1 := (List.getElem?_eq_some_iff.1 hu).1; have h2 := h.len; omega
    exact ((h.own i u _ hu (List.getElem?_eq_getElem hil)).lt q hq).2
  refine ⟨⟨hb1.set (k := k) (u := v) v' hv, by rw [List.length_set, List.length_set]; exact h.len, h.lo, fun i u m hu hm => ?_, fun i u hu => ?_, fun i j u x q hij hu hx hq => ?_⟩, hb1.fz k, hb1.get hv⟩
  · by_cases e : i = k
    · subst e
      rw [List.getElem?_set_self hkl] at hu
      rw [List.getElem?_set_self (by have := h.len; omega)] at hm
      cases hu; cases hm
      exact ho.setOther hv'ob _
    · rw [List.getElem?_set_ne (fun e2 => e e2.symm)] at hu hm
      have h1 := (h.own i u m hu hm).later hA
      have h2 := hk1.own h1 fun q hq e2 => h.apart i k u v q e hu hv hq e2
      exact h2.setOther (h.ne i u hu) _
  · by_cases e : i = k
    · subst e
      rw [List.getElem?_set_self hkl] at hu
      cases hu
      exact hv'ob
    · rw [List.getElem?_set_ne (fun e2 => e e2.symm)] at hu
      exact h.ne i u hu
  · by_cases ei : i = k
    · subst ei
      rw [List.getElem?_set_self hkl] at hu
      cases hu
      rw [List.getElem?_set_ne hij] at hx
      intro hxq
      rcases hat q hq with e2 | hm
      · exact h.apart i j v x q hij hv hx e2 hxq
      · have := hlt j x _ hx hxq
        omega
    · rw [List.getElem?_set_ne (fun e2 => ei e2.symm)] at hu
      by_cases ej : j = k
      · subst ej
        rw [List.getElem?_set_self hkl] at hx
        cases hx
        intro hxq
        rcases hat q hxq with e2 | hm
        · exact h.apart i j u v q hij hu hv hq e2
        · have := hlt i u _ hu hq
          omega
      · rw [List.getElem?_set_ne (fun e2 => ej e2.symm)] at hx
        exact h.apart i j u x q hij hu hx hq
/-- rows that are made: all empty -/
theorem Rws.made {w : World} {base ob n : Nat} (hb : Bk w ob (List.replicate n (.slice none 0 0))) (hlo : base ≤ ob) : Rws w base ob (List.replicate n (.slice none 0 0)) (List.replicate n []) := by
  have hh : ∀ (i : Nat) v, (List.replicate n (Value.slice none 0 0))[i]? = some v → v = .slice none 0 0 := fun i v hv => by
    have := List.mem_of_getElem? hv
    exact (List.mem_replicate.1 this).2
  refine ⟨hb, by simp, hlo, fun i v l hv hl => ?_, fun i v hv => ?_, fun i j u v q _ hu _ hq => ?_⟩
  · rw [hh i v hv, (List.mem_replicate.1 (List.mem_of_getElem? hl)).2]
    exact Own.nil
  · rw [hh i v hv]; simp [Value.ownBlock]
  · rw [hh i u hu] at hq; simp [Value.ownBlock] at hq
end Go.Proofs.YtgeedjlbajmdkaaGreatDoor
namespace Go.Proofs.YtgeedjlbajmdkaaGreatDoor
open Go.Shelf Go.RowKit

theorem bdSize : (Tryz.prog.info? 139).map (·.size) = some 2 := by kernel_rfl
theorem bdByte : (Tryz.prog.info? 5).map (fun i => (i.zero, i.size, i.bytes)) = some (some (.int .u8 0), 1, 1) := by kernel_rfl
theorem bdLies : liesAt Tryz.prog Tryz.prog.depth 139 (2 / Tryz.prog.cellsOf 139) 0 139 1 = true := by kernel_rfl
/-- a builder of the call's own that holds these bytes -/
def Bd (w : World) (B b : Nat) (l : List UInt8) : Prop := Lib.IsBuilder 139 5 B b (Lib.byteCells l) w
set_option maxHeartbeats 1000000 in
set_option maxRecDepth 100000 in
theorem bd_used (b : Nat) (w : World) (h0 : w.cell? ⟨b, 0, none⟩ = some (.pointer (some ⟨b, 0, none⟩))) :
    Calls Tryz.prog 120 #[.pointer (some ⟨b, 0, none⟩)] w fun e w' => e = .returned (.tuple #[]) ∧ w' = w := by
  obtain ⟨j, hj, _⟩ := Option.map_eq_some_iff.1 bdSize
  go_enter Tryz.func120, Tryz.ntmps120
  go_wp2
  rw [Lib.run_neq_ptr_same w _ Tryz.underlying137 hj]
  go_wp2
  go_end0
  exact ⟨rfl, rfl⟩
set_option maxHeartbeats 1000000 in
set_option maxRecDepth 100000 in
theorem bd_fresh (b : Nat) (w : World) (h0 : w.cell? ⟨b, 0, none⟩ = some (.pointer none)) (hsh : w.shape? b = some (139, 2)) (hfz : w.frozen? ⟨b, 0, none⟩ = false) :
    Calls Tryz.prog 120 #[.pointer (some ⟨b, 0, none⟩)] w fun e w' => e = .returned (.tuple #[]) ∧ w' = w.setCell ⟨b, 0, none⟩ (.pointer (some ⟨b, 0, none⟩)) := by
  obtain ⟨j, hj, hjs⟩ := Option.map_eq_some_iff.1 bdSize
  go_enter Tryz.func120, Tryz.ntmps120
  go_wp2
  rw [Lib.run_to_unsafe w ⟨b, 0, none⟩ Tryz.underlying137 Tryz.underlying178 hj (by rw [hjs]; decide) hsh (Nat.zero_lt_succ 1)]
  simp only [Result.andThen]
  rw [Oper.upon_value]
  go_wp2
  rw [run_callFunc_extern Tryz.func140 (by kernel_rfl) (by kernel_rfl) (by kernel_rfl) (e := Extern.AbiNoEscape.same) (by kernel_rfl)]
  rw [Lib.run_noEscape]
  simp only [Result.andThen]
  rw [Oper.upon_value]
  go_wp2
  rw [Lib.run_from_unsafe w ⟨b, 0, none⟩ Tryz.underlying178 Tryz.underlying137 hj hsh bdLies]
  simp only [Result.andThen]
  rw [Oper.upon_value]
  go_wp2
  go_end0
  exact ⟨rfl, rfl⟩
theorem bd_check (B b : Nat) (bs : List Value) (w : World) (h : Lib.IsBuilder 139 5 B b bs w) :
    Calls Tryz.prog 120 #[.pointer (some ⟨b, 0, none⟩)] w fun e w' => e = .returned (.tuple #[]) ∧ (Lib.BuilderAt 139 5 B b (.pointer (some ⟨b, 0, none⟩)) bs w' ∧ Below B w w') := by
  rcases h with h | h
  · refine (bd_fresh b w h.cell0 h.shape h.frozen0).mono ?_
    rintro e w' ⟨rfl, rfl⟩
    exact ⟨rfl, h.used _, (Below.refl B w).setCell (p := ⟨b, 0, none⟩) h.1 _⟩
  · refine (bd_used b w h.cell0).mono ?_
    rintro e w' ⟨rfl, rfl⟩
    exact ⟨rfl, h, Below.refl B _⟩
theorem bd_check_kept (B b : Nat) (bs : List Value) (w : World) (h : Lib.IsBuilder 139 5 B b bs w) :
    Calls Tryz.prog 120 #[.pointer (some ⟨b, 0, none⟩)] w fun e w' => e = .returned (.tuple #[]) ∧ (Lib.BuilderAt 139 5 B b (.pointer (some ⟨b, 0, none⟩)) bs w' ∧ Below B w w' ∧ ∀ q, q ≠ b → w'.heap[q]? = w.heap[q]?) := by
  rcases h with h | h
  · refine (bd_fresh b w h.cell0 h.shape h.frozen0).mono ?_
    rintro e w' ⟨rfl, rfl⟩
    exact ⟨rfl, h.used _, (Below.refl B w).setCell (p := ⟨b, 0, none⟩) h.1 _, fun q hq => Below.heap_setCell _ _ _ _ (fun e => hq (by simp [e]))⟩
  · refine (bd_used b w h.cell0).mono ?_
    rintro e w' ⟨rfl, rfl⟩
    exact ⟨rfl, h, Below.refl B _, fun _ _ => rfl⟩
set_option maxHeartbeats 2000000 in
set_option maxRecDepth 100000 in
theorem bd_write_kept (B b : Nat) (l : List UInt8) (s : ByteArray) (w : World) (h : Bd w B b l) (hlen : l.length + s.size ≤ 140737488355328) (hBw : B ≤ w.heap.size) :
    Calls Tryz.prog 91 #[.pointer (some ⟨b, 0, none⟩), .string s] w fun e w' => e = .returned (.tuple #[.int .i64 s.size, .nilIface]) ∧ (Bd w' B b (l ++ s.data.toList) ∧ Below B w w' ∧ ∀ (q : Nat) (x : Obj), w.heap[q]? = some x → q ≠ b → (∀ c fr, x ≠ .cells c 5 fr) → w'.heap[q]? = some x) := by
  obtain ⟨i0, hi, hz0, hz1, hz2⟩ := info_parts bdByte
  unfold Bd at h
  generalize hbs : Lib.byteCells l = bs at h
  have hbl : bs.length = l.length := by rw [← hbs, Lib.byteCells_length]
  rw [← hbl] at hlen
  clear hbl
  go_enter Tryz.func91, Tryz.ntmps91
  go_wp2_with (go_at_call 120; refine (bd_check_kept B b bs _ h).mono ?_)
  rintro e w1 ⟨rfl, h1, hb1, hkc⟩
  have HKC := Lib.hid hkc
  clear hkc
  obtain ⟨hB, v, hbk, hown, hne⟩ := h1
  have c0 : w1.cell? ⟨b, 0, none⟩ = some (.pointer (some ⟨b, 0, none⟩)) := by rw [Lib.cell_of_heap hbk]; rfl
  have c1 : w1.cell? ⟨b, 1, none⟩ = some v := by rw [Lib.cell_of_heap hbk]; rfl
  go_wp2_with (at_builtin; refine Lib.wpList_append_own_string _ rfl _ _ 135 9 rfl B 5 i0 Tryz.underlying135 Tryz.underlying9 hi hz0 hz1 hz2 _ _ _ rfl hown s rfl ?c3 ?c4 ?c5 ?_)
  case c3 => unfold maxLen; omega
  case c4 => omega
  case c5 => have := hb1.size; omega
  intro v' w2 hown' hgrow _
  have hlt : b < w1.heap.size := by
    rcases Nat.lt_or_ge b w1.heap.size with h' | h'
    · exact h'
    · simp [Array.getElem?_eq_none h'] at hbk
  have hb2 : w2.heap[b]? = some (.cells #[.pointer (some ⟨b, 0, none⟩), v] 139 (0, 0)) := by
    rw [hgrow.block b hlt (fun e => hne e.symm)]
    exact hbk
  have d0 : w2.cell? ⟨b, 0, none⟩ = some (.pointer (some ⟨b, 0, none⟩)) := by rw [Lib.cell_of_heap hb2]; rfl
  have d1 : w2.cell? ⟨b, 1, none⟩ = some v := by rw [Lib.cell_of_heap hb2]; rfl
  have f1 : w2.frozen? ⟨b, 1, none⟩ = false := Lib.frozen_of_heap hb2 1
  obtain ⟨ao, n', cap, rfl⟩ : ∃ ao n' cap, v' = .slice ao n' cap := by
    rcases hown'.2 with ⟨hv, _⟩ | ⟨g, cap, cur, hv, _⟩
    · exact ⟨_, _, _, hv⟩
    · exact ⟨_, _, _, hv⟩
  go_wp2
  go_ret2
  refine ⟨rfl, ?_, ?_, ?_⟩
  · have hq := Lib.BuilderAt.put (T := 139) (e := 5) hB hb2 (bs' := bs ++ Lib.strCells s) (by simpa [Lib.strCells_length] using hown') (by decide)
    rw [← hbs] at hq
    have e : Lib.byteCells (l ++ s.data.toList) = Lib.byteCells l ++ Lib.strCells s := by simp [Lib.byteCells, Lib.strCells]
    unfold Bd
    rw [e]
    exact .inr hq
  · exact (hb1.grown hgrow (by have := hb1.size; omega) (fun k hk => (hown.lt k hk).1)).setCell (p := ⟨b, 1, none⟩) hB _
  · intro q x hq hqb hqx
    rw [Below.heap_setCell _ _ _ _ (fun e => hqb (by simp [e]))]
    have h1 := HKC.out q hqb
    have hlt1 : q < w1.heap.size := by
      have := (Array.getElem?_eq_some_iff.1 (h1.trans hq)).1
      exact this
    rw [hgrow.block q hlt1 (fun e => by
      rcases hown.2 with ⟨rfl, _⟩ | ⟨g, cap, cur, rfl, _, hg, _⟩
      · cases e
      · simp only [Value.ownBlock, Option.some.injEq] at e
        subst e
        rw [h1, hq] at hg
        simp only [Option.some.injEq] at hg
        exact hqx _ _ hg), h1, hq]
theorem bd_write (B b : Nat) (l : List UInt8) (s : ByteArray) (w : World) (h : Bd w B b l) (hlen : l.length + s.size ≤ 140737488355328) (hBw : B ≤ w.heap.size) :
    Calls Tryz.prog 91 #[.pointer (some ⟨b, 0, none⟩), .string s] w fun e w' => e = .returned (.tuple #[.int .i64 s.size, .nilIface]) ∧ (Bd w' B b (l ++ s.data.toList) ∧ Below B w w') :=
  (bd_write_kept B b l s w h hlen hBw).mono fun _ _ ⟨a, b, c, _⟩ => ⟨a, b, c⟩
theorem bd_string (B b : Nat) (l : List UInt8) (w : World) (h : Bd w B b l) (hBw : B ≤ w.heap.size) :
    Calls Tryz.prog 92 #[.pointer (some ⟨b, 0, none⟩)] w fun e w' => e = .returned (.string (tx l)) ∧ Below B w w' := by
  exact Tryz.Builder_String_any B b l w h hBw
theorem bd_new (w : World) : Bd (w.alloc (.cells #[.pointer none, .slice none 0 0] 139)) w.heap.size w.heap.size [] := Lib.fresh_isBuilder _ _ _
end Go.Proofs.YtgeedjlbajmdkaaGreatDoor
/- Lines of a text (plain). -/
namespace Go.Proofs.YtgeedjlbajmdkaaGreatDoor
open Go.RowKit

/-- a text without its last end of a line -/
def trim10 (s : List UInt8) : List UInt8 := if s.getLast? = some 10 then s.dropLast else s
def linesR (s : List UInt8) : List (List UInt8) := splitAt 10 (trim10 s)
theorem trim10_eq (s : List UInt8) : Lib.trimSuffix s [10] = trim10 s := by
  unfold Lib.trimSuffix trim10 Lib.hasSuffix
  rcases List.eq_nil_or_concat s with rfl | ⟨l, x, rfl⟩
  · rfl
  · rw [List.concat_eq_append, List.getLast?_concat, List.dropLast_concat]
    by_cases h : x = 10
    · subst h
      have : [10].isSuffixOf (l ++ [(10 : UInt8)]) = true := by simp
      rw [if_pos this, if_pos rfl]
      simp
    · have : [10].isSuffixOf (l ++ [x]) = false := by
        rw [Bool.eq_false_iff]
        intro h2
        rw [List.isSuffixOf_iff_suffix] at h2
        obtain ⟨t, ht⟩ := h2
        have := List.append_inj_right' ht rfl
        simp at this
        exact h this.symm
      rw [this]
      simp [h]
theorem lines_word (c : UInt8) : ∀ (n : Nat) (l : List UInt8), l.length ≤ n → ∀ w ∈ splitAt c l, w.length ≤ l.length
  | 0, l, h, w, hw => by
    obtain rfl := List.length_eq_zero_iff.1 (Nat.le_zero.1 h)
    rw [splitAt_no (by simp)] at hw
    rw [List.mem_singleton.1 hw]; exact Nat.le_refl _
  | n + 1, l, h, w, hw => by
    rcases first_of c l with hc | ⟨A, B, rfl, hA⟩
    · rw [splitAt_no hc] at hw
      rw [List.mem_singleton.1 hw]; exact Nat.le_refl _
    · rw [splitAt_yes hA] at hw
      rw [List.length_append, List.length_cons] at h ⊢
      rcases List.mem_cons.1 hw with e | e
      · rw [e]; omega
      · have := lines_word c n B (by omega) w e
        omega
end Go.Proofs.YtgeedjlbajmdkaaGreatDoor
