/- A strings.Builder that a call makes itself: its methods at this program. -/
import Derived.Test.YtgeedjlbajmdkaaGreatDoorErr
import Derived.StillTailTactics
import Derived.Maps.AppendAt
import Derived.Lib.Split
import Derived.Lib.IndexMore
import Derived.Lib.ItoaMem
import Derived.Lib.AtoiAllCases
import GoSem.Op.String
import Derived.Test.YtgeedjlbajmdkaaGreatDoorShelf
import Derived.Shelf.Strings.Builder1
import Derived.Lib.Builder
set_option linter.unusedSimpArgs false
set_option linter.unusedVariables false
/- Slices that a call makes itself: 'Own': a list's cells in a row of the call's own; laws over any program. -/
namespace Go.Proofs.YtgeedjlbajmdkaaGreatDoor
open Go.RowKit

/-- v is a slice of the call's own (its block is 'base' or later) that holds the list l. -/
def Own {α : Type} (sz : Nat) (enc : α → List Value) (e : TypeId) (w : World) (base : Nat) (v : Value) (l : List α) : Prop :=
  (∃ ao cap, v = .slice ao l.length cap) ∧ w.ownsRow base e sz v l.length (l.flatMap enc)

section
variable {α : Type} {sz : Nat} {enc : α → List Value} {e : TypeId} {w : World} {base : Nat} {v : Value} {l : List α}

theorem Own.nil : Own sz enc e w base (.slice none 0 0) ([] : List α) := ⟨⟨none, 0, rfl⟩, World.ownsRow_nil _ _ _ _⟩

theorem Own.addr (h : Own sz enc e w base v l) (h0 : 0 < l.length) : ∃ g cap, v = .slice (some ⟨g, 0, none⟩) l.length cap ∧ base ≤ g ∧ g < w.heap.size ∧ (∀ j, w.cell? ⟨g, j, none⟩ = (l.flatMap enc)[j]? ∨ l.length * sz ≤ j) ∧ ∀ j, w.frozen? ⟨g, j, none⟩ = false := by
  obtain ⟨_, hr⟩ := h
  obtain ⟨hl, hh⟩ := hr
  rcases hh with ⟨_, hn⟩ | ⟨g, cap, cur, rfl, hb, hg, hc, hm, hcs, ht⟩
  · omega
  · refine ⟨g, cap, rfl, hb, (Array.getElem?_eq_some_iff.1 hg).1, fun j => ?_, fun j => ?_⟩
    · by_cases hj : j < l.length * sz
      · exact .inl (World.ownsRow.cellAt ⟨hl, .inr ⟨g, cap, cur, rfl, hb, hg, hc, hm, hcs, ht⟩⟩ j hj)
      · exact .inr (by omega)
    · exact World.ownsRow.frozenAt ⟨hl, .inr ⟨g, cap, cur, rfl, hb, hg, hc, hm, hcs, ht⟩⟩ j

theorem Own.sl (hsz : ∀ x, (enc x).length = sz) {ao : Option Addr} {cap : Nat} (h : Own sz enc e w base (.slice ao l.length cap) l) : Sl sz enc w ao l := by
  intro h0
  obtain ⟨g, cap', hv, hb, hg, hc, _⟩ := h.addr h0
  cases hv
  refine ⟨g, 0, rfl, hg, fun i x j v hi hj => ?_⟩
  have hlt : i < l.length := (List.getElem?_eq_some_iff.1 hi).1
  have hj' : j < sz := by rw [← hsz x]; exact (List.getElem?_eq_some_iff.1 hj).1
  rcases hc (i * sz + j) with h1 | h1
  · rw [Nat.zero_add, h1]; exact flat_get hsz hi hj
  · exfalso
    have : (i + 1) * sz ≤ l.length * sz := Nat.mul_le_mul_right _ hlt
    rw [Nat.succ_mul] at this; omega

theorem Own.lt (h : Own sz enc e w base v l) : ∀ k, v.ownBlock = some k → base ≤ k ∧ k < w.heap.size := h.2.lt

theorem Own.later {w' : World} (h : Own sz enc e w base v l) (hb : Below w.heap.size w w') : Own sz enc e w' base v l := by
  obtain ⟨h1, hr⟩ := h
  refine ⟨h1, ?_⟩
  obtain ⟨hl, hh⟩ := hr
  refine ⟨hl, ?_⟩
  rcases hh with h | ⟨g, cap, cur, rfl, hbg, hg, r⟩
  · exact .inl h
  · exact .inr ⟨g, cap, cur, rfl, hbg, by rw [hb.block g (Array.getElem?_eq_some_iff.1 hg).1]; exact hg, r⟩

theorem Own.alloc (h : Own sz enc e w base v l) (o : Obj) : Own sz enc e (w.alloc o) base v l := ⟨h.1, h.2.alloc o⟩
theorem Own.drew (h : Own sz enc e w base v l) : Own sz enc e w.drew base v l := h
theorem Own.drewN (h : Own sz enc e w base v l) (n : Nat) : Own sz enc e (w.drewN n) base v l := h
theorem Own.base_le (h : Own sz enc e w base v l) {b : Nat} (hb : b ≤ base) : Own sz enc e w b v l := by
  obtain ⟨h1, hl, hh⟩ := h
  refine ⟨h1, hl, ?_⟩
  rcases hh with h | ⟨g, cap, cur, rfl, hbg, r⟩
  · exact .inl h
  · exact .inr ⟨g, cap, cur, rfl, by omega, r⟩

theorem Own.grown {w' : World} {v' : Value} {l2 : List α} (h : w'.ownsRow base e sz v' (l.length + l2.length) (l.flatMap enc ++ l2.flatMap enc)) : Own sz enc e w' base v' (l ++ l2) := by
  refine ⟨?_, by rw [List.length_append, List.flatMap_append]; exact h⟩
  rw [List.length_append]
  rcases h.2 with ⟨rfl, hn⟩ | ⟨g, cap, cur, rfl, _⟩
  · exact ⟨none, 0, by rw [hn]⟩
  · exact ⟨_, cap, rfl⟩

/-- An element changed in place. -/
theorem flat_set (hsz : ∀ x, (enc x).length = sz) : ∀ {l : List α} {k : Nat} {x y : α} {j : Nat} {u : Value}, l[k]? = some x → j < sz → enc y = (enc x).set j u → (l.set k y).flatMap enc = (l.flatMap enc).set (k * sz + j) u
  | [], k, x, y, j, u, h, _, _ => by simp at h
  | a :: l, 0, x, y, j, u, h, hj, hy => by
    have e : a = x := by simpa using h
    subst e
    rw [List.set_cons_zero, List.flatMap_cons, List.flatMap_cons, hy, Nat.zero_mul, Nat.zero_add, List.set_append_left _ _ (by rw [hsz]; exact hj)]
  | a :: l, k + 1, x, y, j, u, h, hj, hy => by
    have h' : l[k]? = some x := by simpa using h
    rw [List.set_cons_succ, List.flatMap_cons, List.flatMap_cons, flat_set hsz h' hj hy, List.set_append_right _ _ (by rw [hsz, Nat.succ_mul]; omega), hsz]
    congr 2
    rw [Nat.succ_mul]; omega

theorem Own.set (hsz : ∀ x, (enc x).length = sz) {g cap k j : Nat} {x y : α} {u : Value} (h : Own sz enc e w base (.slice (some ⟨g, 0, none⟩) l.length cap) l) (hk : l[k]? = some x) (hj : j < sz) (hy : enc y = (enc x).set j u) :
    Own sz enc e (w.setCell ⟨g, k * sz + j, none⟩ u) base (.slice (some ⟨g, 0, none⟩) l.length cap) (l.set k y) := by
  refine ⟨⟨_, cap, by rw [List.length_set]⟩, ?_⟩
  rw [List.length_set, flat_set hsz hk hj hy]
  exact (World.ownsRow.stored h.2 _ _).1

/-- Nothing below B is one of the row's cells: what an append leaves, below B. -/
theorem Own.below {w0 w' : World} (h : Own sz enc e w base v l) (hb : Below base w0 w) (hg : w.grownBy w' v.ownBlock) (hB : base ≤ w.heap.size) : Below base w0 w' :=
  hb.grown hg hB fun k hk => (h.lt k hk).1

theorem news_at {w : World} {cs : Array Value} {t : TypeId} {fr : Nat × Nat} {b : Nat} {l : List Value} (hb : b = w.heap.size) (hl : cs.toList = l) : ∀ (j : Nat) (u : Value), l[j]? = some u → (w.alloc (.cells cs t fr)).cell? ((⟨b, 0, none⟩ : Addr).add j) = some u := by
  subst hb hl
  intro j u h
  have h' : cs[j]? = some u := by simpa using h
  have e : ((⟨w.heap.size, 0, none⟩ : Addr).add j) = ⟨w.heap.size, j, none⟩ := by unfold Addr.add; split <;> simp_all
  rw [e]
  unfold World.cell?
  rw [heap_new]
  simp [h']

theorem wpList_append_one {P : Program} {ops : Array Oper} {rest : List Oper} {o : Oper} {a : Act} {Q : Exit → Act → World → Prop} {w0 : World} {bytes : Nat} (hsz : ∀ x, (enc x).length = sz) (s x : Operand) (t : TypeId) (i : TypeInfo) (z : Value) (hgd : o.guard = none)
    (ho : o.op = .call { callee := .builtin .append, args := #[s, x], argTypes := #[t, t] })
    (ht : P.underlying t = some (.slice e)) (hi : P.info? e = some i) (hz : i.zero = some z) (hsize : i.size = sz) (hby : i.bytes = bytes) (hzs : z.cells.size = sz) (hpos : 0 < sz) (hb100 : bytes ≤ 100)
    (hown : Own sz enc e w base v l) (hbel : Below base w0 w) (hB : base ≤ w.heap.size) (hlen : l.length + 1 ≤ 1000000000)
    (hs : a.eval s = v) (y : α) (ad : Addr) (c : Nat) (hx : a.eval x = .slice (some ad) 1 c)
    (hnews : ∀ (j : Nat) (u : Value), (enc y)[j]? = some u → w.cell? (ad.add j) = some u) (h1 : ∀ u ∈ enc y, u.oneCell' = true)
    (h : ∀ v' w', Own sz enc e w' base v' (l ++ [y]) → Below base w0 w' → w.grownBy w' v.ownBlock → (v'.ownBlock = v.ownBlock ∨ v'.ownBlock = some w.heap.size) → wpList P ops Q rest (a.put o.dst v') w') : wpList P ops Q (o :: rest) a w := by
  refine wpList_append_own_at _ hgd s x t ho base e i z sz bytes ht hi hz hsize hby hzs hpos v l.length _ hs hown.2 ad 1 c (enc y) hx (by rw [hsz]; omega) hnews h1 (by unfold maxLen; omega) ?_ hB ?_
  · have : (l.length + 1) * bytes ≤ 1000000000 * 100 := Nat.mul_le_mul hlen hb100
    omega
  · intro v' w' hr hg _ hat
    exact h v' w' (Own.grown (l2 := [y]) (by simpa using hr)) (hown.below hbel hg hB) hg hat
end


section
variable {α : Type} {sz : Nat} {enc : α → List Value} {e : TypeId} {w : World} {base : Nat} {v : Value} {l : List α}
/-- A store into another block. -/
theorem Own.setOther {a : Addr} (h : Own sz enc e w base v l) (hne : v.ownBlock ≠ some a.block) (u : Value) : Own sz enc e (w.setCell a u) base v l := by
  obtain ⟨h1, hl, hh⟩ := h
  refine ⟨h1, hl, ?_⟩
  rcases hh with h | ⟨g, cap, cur, rfl, hbg, hg, r⟩
  · exact .inl h
  · exact .inr ⟨g, cap, cur, rfl, hbg, by rw [Below.heap_setCell w a u g (fun e => hne (by rw [e]; rfl))]; exact hg, r⟩

theorem Own.len {a : Option Addr} {n cap : Nat} (h : Own sz enc e w base (.slice a n cap) l) : n = l.length := by
  obtain ⟨⟨ao, c, hv⟩, _⟩ := h
  cases hv; rfl
theorem Own.cellAt (hsz : ∀ x, (enc x).length = sz) {g n cap i j : Nat} {x : α} {u : Value} (h : Own sz enc e w base (.slice (some ⟨g, 0, none⟩) n cap) l) (hi : l[i]? = some x) (hj : (enc x)[j]? = some u) : w.cell? ⟨g, i * sz + j, none⟩ = some u := by
  obtain rfl := h.len
  obtain ⟨b, off, e1, _, hc⟩ := h.sl hsz (by have := (List.getElem?_eq_some_iff.1 hi).1; omega)
  cases e1
  simpa using hc i x j u hi hj
theorem Own.frozenAt {g n cap : Nat} (h : Own sz enc e w base (.slice (some ⟨g, 0, none⟩) n cap) l) (j : Nat) : w.frozen? ⟨g, j, none⟩ = false := by
  obtain rfl := h.len
  exact World.ownsRow.frozenAt h.2 j
theorem Own.set' (hsz : ∀ x, (enc x).length = sz) {g n cap k j : Nat} {x y : α} {u : Value} (h : Own sz enc e w base (.slice (some ⟨g, 0, none⟩) n cap) l) (hk : l[k]? = some x) (hj : j < sz) (hy : enc y = (enc x).set j u) :
    Own sz enc e (w.setCell ⟨g, k * sz + j, none⟩ u) base (.slice (some ⟨g, 0, none⟩) n cap) (l.set k y) := by
  obtain rfl := h.len
  exact Own.set hsz h hk hj hy
theorem Own.blk {g n cap : Nat} (h : Own sz enc e w base (.slice (some ⟨g, 0, none⟩) n cap) l) : base ≤ g ∧ g < w.heap.size := h.lt g rfl

theorem mid_get {A : List α} {n k : Nat} {x : α} (h : A.length = k) (hn : 0 < n) : (A ++ List.replicate n x)[k]? = some x := by
  rw [List.getElem?_append_right (by omega), List.getElem?_replicate, if_pos (by omega)]
theorem mid_set {A : List α} {n k : Nat} {x y : α} (h : A.length = k) (hn : 0 < n) : (A ++ List.replicate n x).set k y = (A ++ [y]) ++ List.replicate (n - 1) x := by
  obtain ⟨m, rfl⟩ : ∃ m, n = m + 1 := ⟨n - 1, by omega⟩
  rw [List.set_append_right _ _ (by omega), List.append_assoc, List.replicate_succ, show k - A.length = 0 by omega, List.set_cons_zero]
  rfl

theorem Own.lit {g : Nat} {cs : Array Value} (hsz : ∀ x, (enc x).length = sz) (hb : w.heap[g]? = some (.cells cs e (0, 0))) (hg : base ≤ g) (hc : cs.toList = l.flatMap enc) (hm : l.length ≤ maxLen) : Own sz enc e w base (.slice (some ⟨g, 0, none⟩) l.length l.length) l := by
  have hl : ∀ l : List α, (l.flatMap enc).length = l.length * sz := by
    intro l
    induction l with
    | nil => simp
    | cons a l ih => rw [List.flatMap_cons, List.length_append, ih, hsz, List.length_cons, Nat.succ_mul]; omega
  have hcs : cs.size = l.length * sz := by rw [← hl, ← hc]; simp
  exact ⟨⟨_, _, rfl⟩, hl l, .inr ⟨g, l.length, cs, rfl, hg, hb, Nat.le_refl _, hm, hcs, by rw [List.take_of_length_le (by simp [hcs]), hc]⟩⟩

theorem wpList_append_list {P : Program} {ops : Array Oper} {rest : List Oper} {o : Oper} {a : Act} {Q : Exit → Act → World → Prop} {w0 : World} {bytes : Nat} (hsz : ∀ x, (enc x).length = sz) (s x : Operand) (t : TypeId) (i : TypeInfo) (z : Value) (hgd : o.guard = none)
    (ho : o.op = .call { callee := .builtin .append, args := #[s, x], argTypes := #[t, t] })
    (ht : P.underlying t = some (.slice e)) (hi : P.info? e = some i) (hz : i.zero = some z) (hsize : i.size = sz) (hby : i.bytes = bytes) (hzs : z.cells.size = sz) (hpos : 0 < sz) (hb100 : bytes ≤ 100)
    (hown : Own sz enc e w base v l) (hbel : Below base w0 w) (hB : base ≤ w.heap.size) (l2 : List α) (hlen : l.length + l2.length ≤ 1000000000)
    (hs : a.eval s = v) (ad : Addr) (c m : Nat) (hm : m = l2.length) (hx : a.eval x = .slice (some ad) m c)
    (hnews : ∀ (j : Nat) (u : Value), (l2.flatMap enc)[j]? = some u → w.cell? (ad.add j) = some u) (h1 : ∀ u ∈ l2.flatMap enc, u.oneCell' = true)
    (h : ∀ v' w', Own sz enc e w' base v' (l ++ l2) → Below base w0 w' → w.grownBy w' v.ownBlock → (v'.ownBlock = v.ownBlock ∨ v'.ownBlock = some w.heap.size) → wpList P ops Q rest (a.put o.dst v') w') : wpList P ops Q (o :: rest) a w := by
  have hl : ∀ l : List α, (l.flatMap enc).length = l.length * sz := by
    intro l
    induction l with
    | nil => simp
    | cons a l ih => rw [List.flatMap_cons, List.length_append, ih, hsz, List.length_cons, Nat.succ_mul]; omega
  subst hm
  refine wpList_append_own_at _ hgd s x t ho base e i z sz bytes ht hi hz hsize hby hzs hpos v l.length _ hs hown.2 ad l2.length c (l2.flatMap enc) hx (hl l2) hnews h1 (by unfold maxLen; omega) ?_ hB ?_
  · have : (l.length + l2.length) * bytes ≤ 1000000000 * 100 := Nat.mul_le_mul hlen hb100
    omega
  · intro v' w' hr hg _ hat
    exact h v' w' (Own.grown hr) (hown.below hbel hg hB) hg hat

theorem one_flat (henc : ∀ x, ∀ u ∈ enc x, u.oneCell' = true) : ∀ u ∈ l.flatMap enc, u.oneCell' = true := by
  intro u hu
  obtain ⟨x, _, hx⟩ := List.mem_flatMap.1 hu
  exact henc x u hx
theorem one_int : ∀ x, ∀ u ∈ encInt x, u.oneCell' = true := fun x u h => by simp [encInt] at h; subst h; rfl
theorem one_bool : ∀ x, ∀ u ∈ encBool x, u.oneCell' = true := fun x u h => by simp [encBool] at h; subst h; rfl
theorem one_pair : ∀ x, ∀ u ∈ encP x, u.oneCell' = true := fun x u h => by simp [encP] at h; rcases h with h | h <;> subst h <;> rfl

theorem madeCells_list (hsz : ∀ x, (enc x).length = sz) (z : Value) (d : α) (hz : enc d = z.cells.toList) (n : Nat) (hs : z.cells.size = sz) : (madeCells z.cells (n * sz)).toList = (List.replicate n d).flatMap enc := by
  have hlen : ((List.replicate n d).flatMap enc).length = n * sz := by
    induction n with
    | zero => simp
    | succ n ih => rw [List.replicate_succ, List.flatMap_cons, List.length_append, ih, hsz, Nat.succ_mul]; omega
  apply List.ext_getElem?
  intro j
  by_cases hj : j < n * sz
  · have h0 : 0 < sz := by
      rcases Nat.eq_zero_or_pos sz with h | h
      · subst h; simp at hj
      · exact h
    have hi : j / sz < n := by
      rw [Nat.div_lt_iff_lt_mul h0]; exact hj
    have hm : j % sz < sz := Nat.mod_lt _ h0
    have hd : (enc d)[j % sz]? = some (z.cells[j % sz]'(by rw [hs]; exact hm)) := by
      rw [hz]; simp [hs, hm]
    have h1 := flat_get (enc := enc) hsz (l := List.replicate n d) (i := j / sz) (x := d) (by simp [hi]) hd
    rw [show j / sz * sz + j % sz = j by rw [Nat.mul_comm]; exact Nat.div_add_mod j sz] at h1
    rw [h1]
    simp [madeCells, hj, hs, hm]
  · rw [List.getElem?_eq_none (by simp [madeCells]; omega), List.getElem?_eq_none (by rw [hlen]; omega)]

theorem wpList_make_list {P : Program} {ops : Array Oper} {rest : List Oper} {o : Oper} {a : Act} {Q : Exit → Act → World → Prop} {w0 : World}
    (hsz : ∀ x, (enc x).length = sz) (lo c : Operand) (t : TypeId) (i : TypeInfo) (z : Value) (d : α) (n : Nat) (hg : o.guard = none) (hop : o.op = Op.makeSlice t lo c)
    (h1 : P.underlying t = some (.slice e)) (h2 : P.info? e = some i) (h3 : i.zero = some z) (h4 : i.size = sz) (hzs : z.cells.size = sz) (hz : enc d = z.cells.toList) (hby : i.bytes ≤ 100)
    (hl : a.eval lo = .int .i64 n) (hc : a.eval c = .int .i64 n) (hn : n ≤ 1000000000) (hbel : Below base w0 w) (hB : base ≤ w.heap.size)
    (hK : ∀ w', Own sz enc e w' base (.slice (some ⟨w.heap.size, 0, none⟩) n n) (List.replicate n d) → Below base w0 w' → Below w.heap.size w w' → w.heap.size < w'.heap.size → wpList P ops Q rest (a.put o.dst (.slice (some ⟨w.heap.size, 0, none⟩) n n)) w') :
    wpList P ops Q (o :: rest) a w := by
  refine wpList_make_full w hg lo c t hop base e i z sz h1 h2 h3 h4 .i64 .i64 n n n hl hc rfl rfl ?_ (by unfold maxLen; omega) hB ?_
  · have := Nat.mul_le_mul hby hn; omega
  · intro w' hr hgr
    have hlt : w.heap.size < w'.heap.size := by
      obtain ⟨_, hh⟩ := hr
      rcases hh with ⟨h, _⟩ | ⟨g, cap, cur, h, _, hg, _⟩
      · cases h
      · cases h; exact (Array.getElem?_eq_some_iff.1 hg).1
    have hb2 : Below w.heap.size w w' := (Below.refl _ _).grown hgr (Nat.le_refl _) (fun k h => by cases h)
    refine hK w' ⟨⟨_, n, by rw [List.length_replicate]⟩, ?_⟩ (hbel.grown hgr hB fun k h => by cases h) hb2 hlt
    rw [List.length_replicate, ← madeCells_list hsz z d hz n hzs]; exact hr
end

/-- A region that draws: still operations first, in the order of the text; then a tail that is a chain. -/
theorem still_tail {P : Program} {id : Nat} {Q : Exit → Act → World → Prop} {a : Act} {w : World} {l : List Oper} (n : Nat) (hm : P.follows .mixedOrders = true) (hB : Region.lexTailB .any l.toArray n = true)
    (h : wpStill P l.toArray w.drew (fun a' => wpList P l.toArray Q (l.drop n) a' w.drew) (l.take n) a) : (Code.region id l.toArray true).wp P Q a w :=
  wp_region_still_tail n hm hB h

/-- w' is w but for the blocks of S and new ones. -/
structure KeptBut (S : Nat → Prop) (w w' : World) : Prop where
  os : w'.os = w.os
  tape : w'.tape = w.tape
  output : w'.output = w.output
  size : w.heap.size ≤ w'.heap.size
  block : ∀ k, k < w.heap.size → ¬ S k → w'.heap[k]? = w.heap[k]?
section
variable {S T : Nat → Prop} {w w' w'' : World}
theorem KeptBut.refl (S : Nat → Prop) (w : World) : KeptBut S w w := ⟨rfl, rfl, rfl, Nat.le_refl _, fun _ _ _ => rfl⟩
theorem KeptBut.trans (h : KeptBut S w w') (k : KeptBut S w' w'') : KeptBut S w w'' :=
  ⟨k.os.trans h.os, k.tape.trans h.tape, k.output.trans h.output, Nat.le_trans h.size k.size, fun i hi hs => (k.block i (by have := h.size; omega) hs).trans (h.block i hi hs)⟩
theorem KeptBut.mono (h : KeptBut S w w') (hs : ∀ k, S k → T k) : KeptBut T w w' := ⟨h.os, h.tape, h.output, h.size, fun k hk ht => h.block k hk fun h' => ht (hs k h')⟩
theorem KeptBut.of_below {B : Nat} (h : Below B w w') (hB : w.heap.size ≤ B) : KeptBut S w w' := ⟨h.os, h.tape, h.output, h.size, fun k hk _ => h.block k (by omega)⟩
theorem KeptBut.setCell (h : KeptBut S w w') {p : Addr} (hp : S p.block) (u : Value) : KeptBut S w (w'.setCell p u) :=
  h.trans ⟨rfl, rfl, rfl, by simp [World.setCell], fun k _ hs => Below.heap_setCell _ _ _ _ (fun e => hs (by rw [e]; exact hp))⟩
theorem KeptBut.setNew (h : KeptBut S w w') {p : Addr} (hp : w.heap.size ≤ p.block) (u : Value) : KeptBut S w (w'.setCell p u) :=
  ⟨h.os, h.tape, h.output, by simpa [World.setCell] using h.size, fun k hk hs => (Below.heap_setCell w' p u k (by omega)).trans (h.block k hk hs)⟩
theorem KeptBut.alloc (h : KeptBut S w w') (o : Obj) : KeptBut S w (w'.alloc o) :=
  h.trans ⟨rfl, rfl, rfl, by simp, fun k hk _ => Below.heap_alloc _ _ _ hk⟩
theorem KeptBut.drewN (h : KeptBut S w w') (n : Nat) : KeptBut S w (w'.drewN n) := h.trans ⟨rfl, rfl, rfl, Nat.le_refl _, fun _ _ _ => rfl⟩
theorem KeptBut.drew (h : KeptBut S w w') : KeptBut S w w'.drew := h.trans ⟨rfl, rfl, rfl, Nat.le_refl _, fun _ _ _ => rfl⟩
theorem KeptBut.below (h : KeptBut S w w') {B : Nat} (hS : ∀ k, S k → B ≤ k) (hB : B ≤ w.heap.size) : Below B w w' := ⟨h.os, h.tape, h.output, h.size, fun k hk => h.block k (by omega) fun h' => by have := hS k h'; omega⟩
theorem KeptBut.of_grown {row : Option Nat} (hg : w.grownBy w' row) (hr : ∀ k, row = some k → S k) : KeptBut S w w' :=
  ⟨hg.os, hg.tape, hg.output, hg.size, fun k hk hs => hg.block k hk fun e => hs (hr k e.symm)⟩
theorem KeptBut.grown {row : Option Nat} (h : KeptBut S w w') (hg : w'.grownBy w'' row) (hr : ∀ k, row = some k → w.heap.size ≤ k) : KeptBut S w w'' :=
  ⟨hg.os.trans h.os, hg.tape.trans h.tape, hg.output.trans h.output, Nat.le_trans h.size hg.size, fun k hk hs => (hg.block k (by have := h.size; omega) fun e => by have := hr k e.symm; omega).trans (h.block k hk hs)⟩
theorem KeptBut.cell (h : KeptBut S w w') {a : Addr} {v : Value} (hc : w.cell? a = some v) (hs : ¬ S a.block) : w'.cell? a = some v := by
  rw [World.cell?_of_block (h.block a.block (World.block_lt_of_cell? w a hc) hs)]; exact hc
theorem KeptBut.own {α : Type} {sz : Nat} {enc : α → List Value} {e : TypeId} {base : Nat} {v : Value} {l : List α} (h : KeptBut S w w') (ho : Own sz enc e w base v l) (hs : ∀ k, v.ownBlock = some k → ¬ S k) : Own sz enc e w' base v l := by
  obtain ⟨h1, hl, hh⟩ := ho
  refine ⟨h1, hl, ?_⟩
  rcases hh with hh | ⟨g, cap, cur, rfl, hbg, hg, r⟩
  · exact .inl hh
  · exact .inr ⟨g, cap, cur, rfl, hbg, by rw [h.block g (Array.getElem?_eq_some_iff.1 hg).1 (hs g rfl)]; exact hg, r⟩
end

/-- Block b holds the cells cs; none of it is frozen. -/
def Bk (w : World) (b : Nat) (cs : List Value) : Prop := b < w.heap.size ∧ (∀ (j : Nat) v, cs[j]? = some v → w.cell? ⟨b, j, none⟩ = some v) ∧ ∀ j, w.frozen? ⟨b, j, none⟩ = false
theorem Bk.lt {w : World} {b : Nat} {cs : List Value} (h : Bk w b cs) : b < w.heap.size := h.1
theorem Bk.get {w : World} {b : Nat} {cs : List Value} (h : Bk w b cs) {j : Nat} {v : Value} (hj : cs[j]? = some v) : w.cell? ⟨b, j, none⟩ = some v := h.2.1 j v hj
theorem Bk.fz {w : World} {b : Nat} {cs : List Value} (h : Bk w b cs) (j : Nat) : w.frozen? ⟨b, j, none⟩ = false := h.2.2 j
theorem Bk.kept {S : Nat → Prop} {w w' : World} {b : Nat} {cs : List Value} (h : Bk w b cs) (k : KeptBut S w w') (hs : ¬ S b) : Bk w' b cs :=
  ⟨Nat.lt_of_lt_of_le h.1 k.size, fun j v hj => k.cell (h.2.1 j v hj) hs, fun j => by rw [World.frozen?_of_block (k.block b h.1 hs)]; exact h.2.2 j⟩
theorem Bk.later {w w' : World} {b : Nat} {cs : List Value} (h : Bk w b cs) (k : Below w.heap.size w w') : Bk w' b cs := h.kept (KeptBut.of_below (S := fun _ => False) k (Nat.le_refl _)) id
theorem Bk.alloc {w : World} {b : Nat} {cs : List Value} (h : Bk w b cs) (o : Obj) : Bk (w.alloc o) b cs := h.later ((Below.refl _ _).alloc (Nat.le_refl _) _)
theorem Bk.new {w : World} {cs : Array Value} {t : TypeId} {l : List Value} (hl : cs.toList = l) : Bk (w.alloc (.cells cs t)) w.heap.size l := by
  have e := heap_new w (.cells cs t)
  refine ⟨by simp, fun j v hj => ?_, fun j => ?_⟩
  · subst hl
    simp only [World.cell?]
    rw [e]
    simpa using hj
  · unfold World.frozen?
    rw [e]
    simp
theorem Bk.at {w w' : World} {b : Nat} {l : List Value} (h : Bk w b l) (e : w = w') : Bk w' b l := e ▸ h
theorem below_alloc {w w' : World} {B : Nat} (h : Below B w w') (hB : B ≤ w'.heap.size) (o : Obj) : Below B w (w'.alloc o) := h.alloc hB o

/-- the first one that is p; -1: none is -/
def firstI {α : Type} (p : α → Bool) (l : List α) : Int := match l.findIdx? p with
  | some i => i
  | none => -1
theorem firstI_some {α : Type} {p : α → Bool} {l : List α} {k : Nat} {x : α} (h : l[k]? = some x) (hp : p x = true) (hn : ∀ (i : Nat) y, i < k → l[i]? = some y → p y = false) : firstI p l = k := by
  unfold firstI
  have hlt := (List.getElem?_eq_some_iff.1 h).1
  have : l.findIdx? p = some k := by
    rw [List.findIdx?_eq_some_iff_getElem]
    refine ⟨hlt, by rw [(List.getElem?_eq_some_iff.1 h).2]; exact hp, fun j hj => ?_⟩
    have := hn j l[j] hj (List.getElem?_eq_getElem _)
    simp [this]
  rw [this]
theorem firstI_none {α : Type} {p : α → Bool} {l : List α} (hn : ∀ (i : Nat) y, i < l.length → l[i]? = some y → p y = false) : firstI p l = -1 := by
  unfold firstI
  have : l.findIdx? p = none := by
    rw [List.findIdx?_eq_none_iff]
    intro x hx
    obtain ⟨i, hi⟩ := List.getElem?_of_mem hx
    exact hn i x (List.getElem?_eq_some_iff.1 hi).1 hi
  rw [this]
theorem firstI_any {α : Type} (p : α → Bool) (l : List α) : decide (0 ≤ firstI p l) = l.any p := by
  unfold firstI
  cases h : l.findIdx? p with
  | none =>
    rw [List.findIdx?_eq_none_iff] at h
    simp only [show ¬ (0 : Int) ≤ -1 by decide, decide_false]
    symm
    rw [List.any_eq_false]
    exact fun x hx => by simp [h x hx]
  | some i =>
    rw [List.findIdx?_eq_some_iff_getElem] at h
    obtain ⟨hlt, hp, _⟩ := h
    have : l.any p = true := List.any_eq_true.2 ⟨l[i], List.getElem_mem _, hp⟩
    rw [this]
    simp
theorem firstI_lt {α : Type} (p : α → Bool) (l : List α) : -1 ≤ firstI p l ∧ firstI p l < l.length ∨ l = [] ∧ firstI p l = -1 := by
  unfold firstI
  cases h : l.findIdx? p with
  | none =>
    cases l
    · right; exact ⟨rfl, rfl⟩
    · left; simp; omega
  | some i =>
    rw [List.findIdx?_eq_some_iff_getElem] at h
    obtain ⟨hlt, _, _⟩ := h
    left
    simp; omega

/-- append of one element to a slice of the call's own, as one step of a region that draws -/
theorem step_append_one {α : Type} {sz : Nat} {enc : α → List Value} {e : TypeId} {w : World} {base : Nat} {v : Value} {l : List α} {P : Program} {ops : Array Oper} {o : Oper} {a : Act} {K : Act → World → Prop} {Q : Exit → Act → World → Prop} {E : Prop} {w0 : World} {bytes : Nat} (hsz : ∀ x, (enc x).length = sz) (s x : Operand) (t : TypeId) (i : TypeInfo) (z : Value) (hgd : o.guard = none)
    (ho : o.op = .call { callee := .builtin .append, args := #[s, x], argTypes := #[t, t] })
    (ht : P.underlying t = some (.slice e)) (hi : P.info? e = some i) (hz : i.zero = some z) (hsize : i.size = sz) (hby : i.bytes = bytes) (hzs : z.cells.size = sz) (hpos : 0 < sz) (hb100 : bytes ≤ 100)
    (hown : Own sz enc e w base v l) (hbel : Below base w0 w) (hB : base ≤ w.heap.size) (hlen : l.length + 1 ≤ 1000000000)
    (hs : a.eval s = v) (y : α) (ad : Addr) (c : Nat) (hx : a.eval x = .slice (some ad) 1 c)
    (hnews : ∀ (j : Nat) (u : Value), (enc y)[j]? = some u → w.cell? (ad.add j) = some u) (h1 : ∀ u ∈ enc y, u.oneCell' = true)
    (h : ∀ v' w', Own sz enc e w' base v' (l ++ [y]) → Below base w0 w' → w.grownBy w' v.ownBlock → (v'.ownBlock = v.ownBlock ∨ v'.ownBlock = some w.heap.size) → K (a.put o.dst v') w') :
    if Region.wanted o (yielded ops a.tmps) = true then Oper.wp P o a w K Q else E := by
  have hw : Region.wanted o (yielded ops a.tmps) = true := by simp [Region.wanted, hgd]
  rw [if_pos hw]
  have hb : (l.length + 1) * bytes ≤ 1000000000 * 100 := Nat.mul_le_mul hlen hb100
  obtain ⟨v', w', hr, h2, h3, _, h5⟩ := run_append_own_at (P := P) w base t o.type e i z sz bytes ht hi hz hsize hby hzs hpos v l.length _ hown.2 ad 1 c (enc y) (by rw [hsz]; omega) hnews h1 (by unfold maxLen; omega) (by omega) hB
  unfold Oper.wp execOp
  simp only [ho, resolve, invoke, builtin, Sem.run_bind, Sem.run_pure, Result.andThen_ok, List.map_toArray, List.map_cons, List.map_nil, hs, hx, hr]
  exact h v' w' (Own.grown (l2 := [y]) (by simpa using h2)) (hown.below hbel h3 hB) h3 h5
theorem Bk.set {w : World} {b k : Nat} {cs : List Value} {u : Value} (h : Bk w b cs) (v : Value) (hk : cs[k]? = some u) : Bk (w.setCell ⟨b, k, none⟩ v) b (cs.set k v) := by
  refine ⟨by simpa [World.setCell] using h.1, fun j x hj => ?_, fun j => by rw [World.frozen?_setCell]; exact h.2.2 j⟩
  by_cases e : k = j
  · subst e
    rw [List.getElem?_set_self (List.getElem?_eq_some_iff.1 hk).1] at hj
    cases hj
    exact cellSetS (h.get hk)
  · rw [List.getElem?_set_ne e] at hj
    exact cellSetO (h.get hj) (fun e' => e (by cases e'; rfl))
theorem Bk.setO {w : World} {b : Nat} {cs : List Value} (h : Bk w b cs) {p : Addr} (hp : p.block ≠ b) (v : Value) : Bk (w.setCell p v) b cs :=
  h.kept (S := fun q => q = p.block) ((KeptBut.refl (fun q => q = p.block) w).setCell rfl v) (fun e => hp e.symm)
end Go.Proofs.YtgeedjlbajmdkaaGreatDoor
/- Plain laws of texts: what stands ahead of a byte, what between such bytes; words. -/
namespace Go.Proofs.YtgeedjlbajmdkaaGreatDoor
open Go.RowKit

/-- a text of these bytes -/
def tx (l : List UInt8) : ByteArray := ⟨l.toArray⟩
theorem tx_list (l : List UInt8) : (tx l).data.toList = l := by simp [tx]
theorem tx_of (s : ByteArray) : tx s.data.toList = s := by cases s; simp [tx]
theorem tx_inj {a b : List UInt8} (h : tx a = tx b) : a = b := by rw [← tx_list a, h, tx_list]
theorem tx_size (l : List UInt8) : (tx l).size = l.length := by simp [tx, ByteArray.size]

/-- what stands ahead of the first c, and behind it -/
def cutAt (c : UInt8) : List UInt8 → List UInt8 × List UInt8 × Bool
  | [] => ([], [], false)
  | b :: l => if b = c then ([], l, true) else (b :: (cutAt c l).1, (cutAt c l).2.1, (cutAt c l).2.2)
/-- what stands between -/
def splitAt (c : UInt8) : List UInt8 → List (List UInt8)
  | [] => [[]]
  | b :: l => if b = c then [] :: splitAt c l else match splitAt c l with
    | h :: t => (b :: h) :: t
    | [] => [[b]]
theorem splitAt_ne (c : UInt8) (l : List UInt8) : splitAt c l ≠ [] := by
  cases l with
  | nil => simp [splitAt]
  | cons b l =>
    unfold splitAt
    split
    · simp
    · split <;> simp
theorem occ_one (c : UInt8) (l : List UInt8) (j : Nat) : Lib.occAt l [c] j = (l[j]? == some c) := by
  unfold Lib.occAt
  cases h : l.drop j with
  | nil =>
    have hl : l.length ≤ j := by simpa using h
    rw [List.getElem?_eq_none hl]; simp
  | cons b t =>
    have hb : l[j]? = some b := by
      have := congrArg List.head? h
      rw [List.head?_drop] at this
      simpa using this
    rw [hb]
    by_cases e : c = b
    · subst e; simp
    · have e1 : (c == b) = false := by simpa using e
      have e2 : (b == c) = false := by simp; exact fun h => e h.symm
      simp [List.isPrefixOf, e1, e2]
theorem index_no {c : UInt8} {l : List UInt8} (h : c ∉ l) : Lib.index l [c] = -1 := by
  refine Lib.index_none fun j _ => ?_
  rw [occ_one]
  cases hj : l[j]? with
  | none => rfl
  | some b =>
    have : b ≠ c := fun e => h (e ▸ List.mem_of_getElem? hj)
    simp [this]
theorem index_yes {c : UInt8} {A B : List UInt8} (h : c ∉ A) : Lib.index (A ++ c :: B) [c] = A.length := by
  refine Lib.index_first (by simp) ?_ fun j hj => ?_
  · rw [occ_one, List.getElem?_append_right (Nat.le_refl _)]; simp
  · rw [occ_one, List.getElem?_append_left hj]
    have hx : A[j]? = some A[j] := List.getElem?_eq_getElem hj
    rw [hx]
    have : A[j] ≠ c := fun e => h (e ▸ List.getElem_mem hj)
    simp [this]
theorem first_of (c : UInt8) : ∀ (l : List UInt8), c ∉ l ∨ ∃ A B, l = A ++ c :: B ∧ c ∉ A
  | [] => .inl (by simp)
  | b :: l => by
    by_cases e : b = c
    · subst e; exact .inr ⟨[], l, rfl, by simp⟩
    · rcases first_of c l with h | ⟨A, B, h, hA⟩
      · refine .inl ?_
        rw [List.mem_cons]
        rintro (h2 | h2)
        · exact e h2.symm
        · exact h h2
      · refine .inr ⟨b :: A, B, by rw [h]; rfl, ?_⟩
        rw [List.mem_cons]
        rintro (h2 | h2)
        · exact e h2.symm
        · exact hA h2
theorem cutAt_no {c : UInt8} : ∀ {l : List UInt8}, c ∉ l → cutAt c l = (l, [], false)
  | [], _ => rfl
  | b :: l, h => by
    rw [List.mem_cons, not_or] at h
    unfold cutAt
    rw [if_neg (fun e => h.1 e.symm), cutAt_no h.2]
theorem cutAt_yes {c : UInt8} : ∀ {A B : List UInt8}, c ∉ A → cutAt c (A ++ c :: B) = (A, B, true)
  | [], B, _ => by simp [cutAt]
  | a :: A, B, h => by
    rw [List.mem_cons, not_or] at h
    rw [List.cons_append]
    unfold cutAt
    rw [if_neg (fun e => h.1 e.symm), cutAt_yes h.2]
theorem cut_eq (c : UInt8) (l : List UInt8) : Lib.cut l [c] = cutAt c l := by
  unfold Lib.cut
  rcases first_of c l with h | ⟨A, B, rfl, hA⟩
  · rw [index_no h, cutAt_no h, if_neg (by omega)]
  · rw [index_yes hA, cutAt_yes hA, if_pos (by omega)]
    simp
theorem splitAt_no {c : UInt8} : ∀ {l : List UInt8}, c ∉ l → splitAt c l = [l]
  | [], _ => rfl
  | b :: l, h => by
    rw [List.mem_cons, not_or] at h
    unfold splitAt
    rw [if_neg (fun e => h.1 e.symm), splitAt_no h.2]
theorem splitAt_yes {c : UInt8} : ∀ {A B : List UInt8}, c ∉ A → splitAt c (A ++ c :: B) = A :: splitAt c B
  | [], B, _ => by simp [splitAt]
  | a :: A, B, h => by
    rw [List.mem_cons, not_or] at h
    rw [List.cons_append]
    conv => lhs; unfold splitAt
    rw [if_neg (fun e => h.1 e.symm), splitAt_yes h.2]
theorem splitK_eq (c : UInt8) : ∀ (n : Nat) (l : List UInt8), l.length ≤ n → Lib.splitK [c] 0 (Lib.count l [c]) l = splitAt c l := by
  intro n
  induction n with
  | zero =>
    intro l hl
    have : l = [] := List.length_eq_zero_iff.1 (by omega)
    subst this
    rw [Lib.count_miss (index_no (by simp))]; rfl
  | succ n ih =>
    intro l hl
    rcases first_of c l with h | ⟨A, B, rfl, hA⟩
    · rw [Lib.count_miss (index_no h), splitAt_no h]; rfl
    · have hi := index_yes (B := B) hA
      rw [Lib.count_hit (by simp) hi, splitAt_yes hA, Nat.add_comm, Lib.splitK, if_neg (by rw [hi]; simp), hi]
      have e : (A ++ c :: B).drop (((A.length : Nat) : Int).toNat + [c].length) = B := by
        rw [Int.toNat_natCast, List.length_singleton, List.drop_append]
        simp
      have e2 : (A ++ c :: B).drop (A.length + [c].length) = B := by simp
      rw [e, e2, ih B (by simp at hl; omega)]
      simp
theorem splitB_eq (c : UInt8) (s : ByteArray) : Lib.splitB (tx [c]) 0 (Lib.countB s (tx [c])) s = (splitAt c s.data.toList).map tx := by
  have h := Lib.splitB_data (tx [c]) 0 (Lib.countB s (tx [c])) s
  have hc : Lib.countB s (tx [c]) = Lib.count s.data.toList [c] := by rw [show Lib.countB s (tx [c]) = Lib.count s.data.toList (tx [c]).data.toList from rfl, tx_list]
  rw [tx_list, hc, splitK_eq c _ _ (Nat.le_refl _)] at h
  rw [← h, List.map_map, hc]
  conv => lhs; rw [← List.map_id (Lib.splitB (tx [c]) 0 (Lib.count s.data.toList [c]) s)]
  refine List.map_congr_left fun x _ => ?_
  exact (tx_of x).symm

/-- words: what stands between blanks and is not empty -/
def wordsL (l : List UInt8) : List (List UInt8) := (splitAt 32 l).filter fun w => !w.isEmpty
/-- one byte more: the words that are whole, the one that is begun -/
def wstep (st : List (List UInt8) × List UInt8) (c : UInt8) : List (List UInt8) × List UInt8 := if c = 32 then (if st.2.isEmpty then st.1 else st.1 ++ [st.2], []) else (st.1, st.2 ++ [c])
def wend (st : List (List UInt8) × List UInt8) : List (List UInt8) := if st.2.isEmpty then st.1 else st.1 ++ [st.2]
theorem words_fold : ∀ (l : List UInt8) (ws : List (List UInt8)) (w : List UInt8), wend (l.foldl wstep (ws, w)) = ws ++ ((match splitAt 32 l with
    | h :: t => (w ++ h) :: t
    | [] => []).filter fun w => !w.isEmpty)
  | [], ws, w => by
    simp only [List.foldl_nil, wend, splitAt, List.append_nil]
    cases w <;> simp
  | b :: l, ws, w => by
    rw [List.foldl_cons]
    by_cases e : b = 32
    · subst e
      have h1 : wstep (ws, w) 32 = (if w.isEmpty then ws else ws ++ [w], []) := by simp [wstep]
      rw [h1, words_fold l]
      have h2 : splitAt 32 (32 :: l) = [] :: splitAt 32 l := by simp [splitAt]
      rw [h2]
      cases hs : splitAt 32 l with
      | nil => exact absurd hs (splitAt_ne _ _)
      | cons h t =>
        cases w <;> simp [List.filter_cons]
    · have h1 : wstep (ws, w) b = (ws, w ++ [b]) := by simp [wstep, e]
      rw [h1, words_fold l]
      cases hs : splitAt 32 l with
      | nil => exact absurd hs (splitAt_ne _ _)
      | cons h t =>
        have h2 : splitAt 32 (b :: l) = (b :: h) :: t := by unfold splitAt; rw [if_neg e, hs]
        rw [h2]; simp
theorem words_eq (l : List UInt8) : wend (l.foldl wstep ([], [])) = wordsL l := by
  rw [words_fold]
  unfold wordsL
  cases hs : splitAt 32 l with
  | nil => exact absurd hs (splitAt_ne _ _)
  | cons h t => simp
end Go.Proofs.YtgeedjlbajmdkaaGreatDoor
/- Numbers and their decimal numerals: what strconv's two functions say together, and the document's reading (no program). -/
namespace Go.Proofs.YtgeedjlbajmdkaaGreatDoor
open Go.Lib

def isDig (c : UInt8) : Bool := decide (48 ≤ c.toNat) && decide (c.toNat ≤ 57)
theorem isDig_iff {c : UInt8} : isDig c = true ↔ 48 ≤ c.toNat ∧ c.toNat ≤ 57 := by unfold isDig; simp
/-- what digits spell -/
def digV : Nat → List UInt8 → Nat
  | acc, [] => acc
  | acc, c :: r => digV (10 * acc + (c.toNat - 48)) r
theorem digV_nil (acc : Nat) : digV acc [] = acc := by unfold digV; rfl
theorem digV_cons (acc : Nat) (c : UInt8) (r : List UInt8) : digV acc (c :: r) = digV (10 * acc + (c.toNat - 48)) r := by conv => lhs; unfold digV
theorem digV_snoc (l : List UInt8) : ∀ (acc : Nat) (c : UInt8), digV acc (l ++ [c]) = 10 * digV acc l + (c.toNat - 48) := by
  induction l with
  | nil => intro acc c; rw [List.nil_append, digV_cons, digV_nil, digV_nil]
  | cons d l ih => intro acc c; rw [List.cons_append, digV_cons, digV_cons]; exact ih _ c
theorem digV_mono (l : List UInt8) : ∀ (acc : Nat), acc ≤ digV acc l := by
  induction l with
  | nil => intro acc; rw [digV_nil]; exact Nat.le_refl _
  | cons c l ih => intro acc; rw [digV_cons]; have := ih (10 * acc + (c.toNat - 48)); omega
theorem digV_lt (l : List UInt8) : ∀ (acc : Nat), (∀ c ∈ l, isDig c = true) → digV acc l < (acc + 1) * 10 ^ l.length := by
  induction l with
  | nil => intro acc _; rw [digV_nil]; simp
  | cons c l ih =>
    intro acc h
    have h1 := isDig_iff.1 (h c (List.mem_cons_self ..))
    have h2 := ih (10 * acc + (c.toNat - 48)) fun x hx => h x (List.mem_cons_of_mem _ hx)
    rw [digV_cons, List.length_cons]
    have h3 : (10 * acc + (c.toNat - 48) + 1) * 10 ^ l.length ≤ (10 * (acc + 1)) * 10 ^ l.length := Nat.mul_le_mul_right _ (by omega)
    have h4 : (10 * (acc + 1)) * 10 ^ l.length = (acc + 1) * 10 ^ (l.length + 1) := by rw [Nat.pow_succ, Nat.mul_comm 10 (acc + 1), Nat.mul_assoc, Nat.mul_comm 10 (10 ^ _)]
    omega
theorem digV_ge (l : List UInt8) : ∀ (acc : Nat), acc * 10 ^ l.length ≤ digV acc l := by
  induction l with
  | nil => intro acc; rw [digV_nil]; simp
  | cons y r ih =>
    intro acc
    rw [digV_cons, List.length_cons]
    refine Nat.le_trans ?_ (ih _)
    rw [Nat.pow_succ, Nat.mul_comm (10 ^ _) 10, ← Nat.mul_assoc]
    exact Nat.mul_le_mul_right _ (by omega)
theorem digV_step {l m : List UInt8} {a b : Nat} (hl : l.length = m.length) (hd : ∀ c ∈ l, isDig c = true) (h : a < b) : digV a l < digV b m := by
  have h1 := digV_lt l a hd
  have h2 := digV_ge m b
  have h3 : (a + 1) * 10 ^ l.length ≤ b * 10 ^ m.length := by rw [hl]; exact Nat.mul_le_mul_right _ h
  omega
/-- numerals of one length are in order as their numbers are -/
theorem less_dig (l : List UInt8) : ∀ (m : List UInt8) (acc : Nat), l.length = m.length → (∀ c ∈ l, isDig c = true) → (∀ c ∈ m, isDig c = true) → Op.bytesLess l m = decide (digV acc l < digV acc m) := by
  induction l with
  | nil =>
    intro m acc h _ _
    obtain rfl : m = [] := List.length_eq_zero_iff.1 h.symm
    simp [Op.bytesLess]
  | cons x l ih =>
    intro m acc h hx hy
    cases m with
    | nil => simp at h
    | cons y m =>
      have x1 := isDig_iff.1 (hx x (List.mem_cons_self ..))
      have y1 := isDig_iff.1 (hy y (List.mem_cons_self ..))
      have hlen : l.length = m.length := by simpa using h
      have hx' : ∀ c ∈ l, isDig c = true := fun c hc => hx c (List.mem_cons_of_mem _ hc)
      have hy' : ∀ c ∈ m, isDig c = true := fun c hc => hy c (List.mem_cons_of_mem _ hc)
      rw [digV_cons, digV_cons]
      simp only [Op.bytesLess]
      rcases Nat.lt_trichotomy x.toNat y.toNat with h1 | h1 | h1
      · have h2 : decide (x < y) = true := by simpa [UInt8.lt_iff_toNat_lt] using h1
        have h3 := digV_step (a := 10 * acc + (x.toNat - 48)) (b := 10 * acc + (y.toNat - 48)) hlen hx' (by omega)
        rw [h2, Bool.true_or]
        exact (decide_eq_true h3).symm
      · obtain rfl : x = y := UInt8.toNat_inj.1 h1
        rw [ih m (10 * acc + (x.toNat - 48)) hlen hx' hy']
        have h2 : decide (x < x) = false := by simp [UInt8.lt_iff_toNat_lt]
        rw [h2, Bool.false_or, beq_self_eq_true, Bool.true_and]
      · have h2 : decide (x < y) = false := by simp [UInt8.lt_iff_toNat_lt]; omega
        have h3 : (x == y) = false := by rw [beq_eq_false_iff_ne]; intro e; subst e; omega
        have h4 := digV_step (a := 10 * acc + (y.toNat - 48)) (b := 10 * acc + (x.toNat - 48)) hlen.symm hy' (by omega)
        have h5 : ¬ digV (10 * acc + (x.toNat - 48)) l < digV (10 * acc + (y.toNat - 48)) m := by omega
        rw [h2, h3, Bool.false_and, Bool.or_false]
        exact (decide_eq_false h5).symm
theorem parse_ok (l : List UInt8) : ∀ (acc : Nat), (∀ c ∈ l, isDig c = true) → digV acc l < 18446744073709551616 → parseUint10 acc l = .ok (digV acc l) := by
  induction l with
  | nil => intro acc _ _; rw [digV_nil]; simp only [parseUint10]
  | cons c l ih =>
    intro acc h hv
    have h1 := isDig_iff.1 (h c (List.mem_cons_self ..))
    have h2 := digV_mono l (10 * acc + (c.toNat - 48))
    rw [digV_cons] at hv ⊢
    simp only [parseUint10]
    rw [if_pos h1, if_neg (by omega), if_neg (by omega), Nat.mul_comm acc 10]
    exact ih _ (fun x hx => h x (List.mem_cons_of_mem _ hx)) hv
theorem parse_inv (l : List UInt8) : ∀ (acc u : Nat), parseUint10 acc l = .ok u → (∀ c ∈ l, isDig c = true) ∧ digV acc l = u := by
  induction l with
  | nil => intro acc u h; simp only [parseUint10] at h; injection h with h; rw [digV_nil]; exact ⟨fun c hc => (by cases hc), h⟩
  | cons c l ih =>
    intro acc u h
    simp only [parseUint10] at h
    split at h
    · next h1 =>
      split at h
      · cases h
      · split at h
        · cases h
        · obtain ⟨a, b⟩ := ih _ u h
          refine ⟨fun x hx => ?_, ?_⟩
          · rcases List.mem_cons.1 hx with rfl | hx
            · exact isDig_iff.2 h1
            · exact a x hx
          · rw [digV_cons, Nat.mul_comm 10 acc]; exact b
    · cases h
theorem u8_nat {n : Nat} (h : n < 256) : (UInt8.ofNat n).toNat = n := by simp [UInt8.toNat_ofNat']; omega
/-- a numeral: digits, of which none too many -/
structure Numeral (l : List UInt8) : Prop where
  ne : l ≠ []
  dig : ∀ c ∈ l, isDig c = true
  lead : l.head? = some 48 → l.length = 1
theorem dec_dig (u : Nat) : (∀ c ∈ decDigits u, isDig c = true) ∧ digV 0 (decDigits u) = u ∧ decDigits u ≠ [] ∧ ((decDigits u).head? = some 48 → u = 0) := by
  induction u using Nat.strongRecOn with
  | _ u ih =>
    by_cases h : u < 10
    · rw [decDigits, dif_pos h]
      have e : (UInt8.ofNat (48 + u)).toNat = 48 + u := u8_nat (by omega)
      refine ⟨fun c hc => ?_, ?_, by simp, fun h2 => ?_⟩
      · obtain rfl : c = UInt8.ofNat (48 + u) := by simpa using hc
        rw [isDig_iff, e]; omega
      · rw [digV_cons, digV_nil, e]; omega
      · have h3 : UInt8.ofNat (48 + u) = 48 := by simpa using h2
        rw [h3] at e
        have : (48 : UInt8).toNat = 48 := rfl
        omega
    · obtain ⟨a, b, c, d⟩ := ih (u / 10) (by omega)
      rw [decDigits, dif_neg h]
      have e : (UInt8.ofNat (48 + u % 10)).toNat = 48 + u % 10 := u8_nat (by omega)
      refine ⟨fun x hx => ?_, ?_, by simp, fun h2 => ?_⟩
      · rcases List.mem_append.1 hx with hx | hx
        · exact a x hx
        · obtain rfl : x = UInt8.ofNat (48 + u % 10) := by simpa using hx
          rw [isDig_iff, e]; omega
      · rw [digV_snoc, b, e]; omega
      · obtain ⟨y, q, hy⟩ : ∃ y q, decDigits (u / 10) = y :: q := List.exists_cons_of_ne_nil c
        rw [hy] at h2 d
        have := d (by simpa using h2)
        omega
theorem dec_numeral (u : Nat) : Numeral (decDigits u) := by
  obtain ⟨a, b, c, d⟩ := dec_dig u
  refine ⟨c, a, fun h => ?_⟩
  rw [d h, decDigits_one (by decide)]; rfl
theorem dec_of : ∀ (n : Nat) (l : List UInt8), l.length = n → Numeral l → decDigits (digV 0 l) = l := by
  intro n
  induction n with
  | zero => intro l hl h; exact (h.ne (List.length_eq_zero_iff.1 hl)).elim
  | succ n ih =>
    intro l hl h
    have hne : l ≠ [] := h.ne
    obtain ⟨p, c, rfl⟩ : ∃ p c, l = p ++ [c] := ⟨l.dropLast, l.getLast hne, (List.dropLast_concat_getLast hne).symm⟩
    have hc := isDig_iff.1 (h.dig c (by simp))
    rw [digV_snoc]
    cases p with
    | nil =>
      rw [digV_nil, List.nil_append, decDigits_one (by omega), show 48 + (10 * 0 + (c.toNat - 48)) = c.toNat by omega]
      simp
    | cons d q =>
      have hd := isDig_iff.1 (h.dig d (by simp))
      have h48 : d ≠ 48 := fun e => by
        have := h.lead (by simp [e])
        simp at this
      have hd2 : 49 ≤ d.toNat := by
        rcases Nat.lt_or_ge 48 d.toNat with h1 | h1
        · exact h1
        · exact (h48 (UInt8.toNat_inj.1 (show d.toNat = 48 by omega))).elim
      have hn : Numeral (d :: q) := ⟨by simp, fun x hx => h.dig x (by simp only [List.mem_append]; exact .inl hx), fun e => by simp at e; exact (h48 e).elim⟩
      have hih := ih (d :: q) (by simp at hl ⊢; omega) hn
      have hv : 1 ≤ digV 0 (d :: q) := by
        have := digV_mono q (10 * 0 + (d.toNat - 48))
        rw [digV_cons]; omega
      rw [decDigits, dif_neg (by omega), show (10 * digV 0 (d :: q) + (c.toNat - 48)) / 10 = digV 0 (d :: q) by omega, hih,
        show 48 + (10 * digV 0 (d :: q) + (c.toNat - 48)) % 10 = c.toNat by omega]
      simp
/-- a number's text, read: as strconv's two functions do it -/
def numS (s : List UInt8) : Option Int := match atoiAll s with | .ok v => if itoa v = s then some v else none | _ => none
theorem atoi_itoa {v : Int} (h0 : -9223372036854775808 ≤ v) (h1 : v ≤ 9223372036854775807) : atoiAll (itoa v) = .ok v := by
  by_cases hv : v < 0
  · obtain ⟨u, rfl⟩ : ∃ u : Nat, v = -(u : Int) := ⟨v.natAbs, by omega⟩
    rw [itoa_neg u (by omega), atoiAll_minus]
    obtain ⟨a, b, c, d⟩ := dec_dig u
    unfold parseMag
    rw [if_neg c, parse_ok _ _ a (by omega), b]
    unfold signed
    simp only
    rw [if_neg (by omega)]
  · obtain ⟨u, rfl⟩ : ∃ u : Nat, v = (u : Int) := ⟨v.toNat, by omega⟩
    rw [itoa_nonneg]
    obtain ⟨a, b, c, d⟩ := dec_dig u
    obtain ⟨x, r, hx⟩ : ∃ x r, decDigits u = x :: r := List.exists_cons_of_ne_nil c
    have h2 := isDig_iff.1 (a x (by rw [hx]; exact List.mem_cons_self ..))
    rw [hx, atoiAll_plain x r (by omega) (by omega), ← hx]
    unfold parseMag
    rw [if_neg c, parse_ok _ _ a (by omega), b]
    unfold signless
    simp only
    rw [if_neg (by omega)]
theorem num_iff {s : List UInt8} {v : Int} : numS s = some v ↔ (-9223372036854775808 ≤ v ∧ v ≤ 9223372036854775807) ∧ s = itoa v := by
  constructor
  · intro h
    unfold numS at h
    split at h
    · next u hu =>
      split at h
      · next e => injection h with h; subst h; exact ⟨atoiAll_bounds hu, e.symm⟩
      · cases h
    · cases h
  · rintro ⟨⟨h0, h1⟩, rfl⟩
    unfold numS
    rw [atoi_itoa h0 h1]
    simp
/-- behind the sign -/
def magS (s : List UInt8) : List UInt8 := if s.head? = some 45 then s.drop 1 else s
def max19 : List UInt8 := [57, 50, 50, 51, 51, 55, 50, 48, 51, 54, 56, 53, 52, 55, 55, 53, 56, 48, 55]
def min20 : List UInt8 := [45, 57, 50, 50, 51, 51, 55, 50, 48, 51, 54, 56, 53, 52, 55, 55, 53, 56, 48, 56]
/-- the document's reading -/
def refNum (s : List UInt8) : Int × Bool :=
  if (magS s).length < 1 ∨ 19 < (magS s).length ∨ ((magS s).head? = some 48 ∧ 1 < s.length) then (0, false)
  else if (magS s).all isDig then
    if (magS s).length = 19 ∧ 9223372036854775807 < digV 0 (magS s) then (-9223372036854775808, decide (s = min20))
    else (if (magS s).length < s.length then -(digV 0 (magS s) : Int) else digV 0 (magS s), true)
  else (0, false)
theorem itoa_min : itoa (-9223372036854775808) = min20 := by
  have h : min20 = 45 :: [57, 50, 50, 51, 51, 55, 50, 48, 51, 54, 56, 53, 52, 55, 55, 53, 56, 48, 56] := rfl
  have e := dec_of 19 [57, 50, 50, 51, 51, 55, 50, 48, 51, 54, 56, 53, 52, 55, 55, 53, 56, 48, 56] rfl ⟨by simp, by decide, by decide⟩
  rw [show digV 0 [57, 50, 50, 51, 51, 55, 50, 48, 51, 54, 56, 53, 52, 55, 55, 53, 56, 48, 56] = 9223372036854775808 by decide +kernel] at e
  rw [h, ← e]
  exact itoa_neg 9223372036854775808 (by decide)
theorem dec_len_le {u : Nat} (h : u ≤ 9223372036854775808) : (decDigits u).length ≤ 19 := by
  rw [decDigits_length]
  by_cases h1 : nDigits u ≤ 19
  · exact h1
  · exfalso
    obtain ⟨a, b, c, d⟩ := dec_dig u
    have hl := decDigits_length u
    have hlow : ∀ (l : List UInt8), Numeral l → 2 ≤ l.length → 10 ^ (l.length - 1) ≤ digV 0 l := by
      intro l hn h2
      obtain ⟨x, r, rfl⟩ : ∃ x r, l = x :: r := List.exists_cons_of_ne_nil hn.ne
      have hx := isDig_iff.1 (hn.dig x (List.mem_cons_self ..))
      have hx2 : x ≠ 48 := fun e => by have := hn.lead (by simp [e]); omega
      have hx3 : 49 ≤ x.toNat := by
        rcases Nat.lt_or_ge 48 x.toNat with h3 | h3
        · exact h3
        · exact (hx2 (UInt8.toNat_inj.1 (show x.toNat = 48 by omega))).elim
      have := digV_ge r (10 * 0 + (x.toNat - 48))
      rw [digV_cons, List.length_cons, Nat.add_sub_cancel]
      refine Nat.le_trans ?_ this
      calc 10 ^ r.length = 1 * 10 ^ r.length := (Nat.one_mul _).symm
        _ ≤ _ := Nat.mul_le_mul_right _ (by omega)
    have := hlow _ (dec_numeral u) (by omega)
    rw [b, hl] at this
    have h3 : 10 ^ 19 ≤ 10 ^ (nDigits u - 1) := Nat.pow_le_pow_right (by decide) (by omega)
    omega
theorem itoa_len {v : Int} (h0 : -9223372036854775808 ≤ v) (h1 : v ≤ 9223372036854775807) : (itoa v).length ≤ 20 := by
  by_cases hv : v < 0
  · obtain ⟨u, rfl⟩ : ∃ u : Nat, v = -(u : Int) := ⟨v.natAbs, by omega⟩
    have := dec_len_le (u := u) (by omega)
    rw [itoa_neg u (by omega), List.length_cons]; omega
  · obtain ⟨u, rfl⟩ : ∃ u : Nat, v = (u : Int) := ⟨v.toNat, by omega⟩
    have := dec_len_le (u := u) (by omega)
    rw [itoa_nonneg]; omega
theorem refNum_ok {s : List UInt8} {v : Int} (h : numS s = some v) : refNum s = (v, true) := by
  obtain ⟨⟨h0, h1⟩, rfl⟩ := num_iff.1 h
  by_cases hv : v < 0
  · obtain ⟨u, rfl⟩ : ∃ u : Nat, v = -(u : Int) := ⟨v.natAbs, by omega⟩
    obtain ⟨a, b, c, d⟩ := dec_dig u
    have hm : magS (itoa (-(u : Int))) = decDigits u := by rw [itoa_neg u (by omega)]; rfl
    have hl : (itoa (-(u : Int))).length = (decDigits u).length + 1 := by rw [itoa_neg u (by omega)]; rfl
    have h19 := dec_len_le (u := u) (by omega)
    have h1 : 1 ≤ (decDigits u).length := by
      rcases Nat.eq_zero_or_pos (decDigits u).length with e | e
      · exact (c (List.length_eq_zero_iff.1 e)).elim
      · exact e
    unfold refNum
    rw [hm, b, hl, if_neg (fun h => by rcases h with h | h | ⟨h, _⟩ <;> first | omega | (have := d h; omega)), if_pos (List.all_eq_true.2 a)]
    by_cases hx : 9223372036854775807 < u
    · obtain rfl : u = 9223372036854775808 := by omega
      have e := itoa_min
      have e2 : (decDigits 9223372036854775808).length = 19 := by
        have h3 := congrArg List.length e
        have h4 : (itoa (-9223372036854775808)).length = (decDigits 9223372036854775808).length + 1 := by
          rw [show (-9223372036854775808 : Int) = -((9223372036854775808 : Nat) : Int) by rfl, itoa_neg _ (by decide)]; rfl
        rw [h4] at h3
        have : min20.length = 20 := rfl
        omega
      rw [if_pos ⟨e2, hx⟩]
      have : itoa (-((9223372036854775808 : Nat) : Int)) = min20 := e
      rw [this]; rfl
    · rw [if_neg (by omega), if_pos (by omega)]
  · obtain ⟨u, rfl⟩ : ∃ u : Nat, v = (u : Int) := ⟨v.toNat, by omega⟩
    obtain ⟨a, b, c, d⟩ := dec_dig u
    have hm : magS (itoa (u : Int)) = decDigits u := by
      rw [itoa_nonneg]; unfold magS
      obtain ⟨x, r, hx⟩ : ∃ x r, decDigits u = x :: r := List.exists_cons_of_ne_nil c
      have h2 := isDig_iff.1 (a x (by rw [hx]; exact List.mem_cons_self ..))
      rw [if_neg]
      rw [hx]
      intro e
      have e2 : x = 45 := by simpa using e
      rw [e2] at h2
      have : (45 : UInt8).toNat = 45 := rfl
      omega
    have hl : (itoa (u : Int)).length = (decDigits u).length := by rw [itoa_nonneg]
    have h19 := dec_len_le (u := u) (by omega)
    have h1 : 1 ≤ (decDigits u).length := by
      rcases Nat.eq_zero_or_pos (decDigits u).length with e | e
      · exact (c (List.length_eq_zero_iff.1 e)).elim
      · exact e
    unfold refNum
    have hz : ¬ ((decDigits u).head? = some 48 ∧ 1 < (decDigits u).length) := fun ⟨h, h2⟩ => by have := (dec_numeral u).lead h; omega
    rw [hm, b, hl, if_neg (fun h => by rcases h with h | h | h <;> first | omega | exact hz h), if_pos (List.all_eq_true.2 a), if_neg (by omega), if_neg (by omega)]
theorem num_of_ref {s : List UInt8} (h : (refNum s).2 = true) : numS s = some (refNum s).1 := by
  unfold refNum at h ⊢
  split at h
  · cases h
  next hc =>
  rw [if_neg hc]
  split at h
  case isFalse => cases h
  next ha =>
  rw [if_pos ha]
  have ha' : ∀ c ∈ magS s, isDig c = true := List.all_eq_true.1 ha
  have hlen : ¬ (magS s).length < 1 := fun e => hc (.inl e)
  have hlen2 : ¬ 19 < (magS s).length := fun e => hc (.inr (.inl e))
  have hz : ¬ ((magS s).head? = some 48 ∧ 1 < s.length) := fun e => hc (.inr (.inr e))
  have hne : magS s ≠ [] := fun e => hlen (by rw [e]; decide)
  have hle : (magS s).length ≤ s.length := by unfold magS; split <;> simp
  have hN : Numeral (magS s) := ⟨hne, ha', fun e => by
    rcases Nat.lt_or_ge 1 s.length with h2 | h2
    · exact (hz ⟨e, h2⟩).elim
    · omega⟩
  have hD := dec_of _ _ rfl hN
  have hlt := digV_lt (magS s) 0 ha'
  split at h
  next hx =>
    rw [if_pos hx]
    have hs : s = min20 := by simpa using h
    refine num_iff.2 ⟨⟨by omega, by omega⟩, ?_⟩
    rw [itoa_min]; exact hs
  next hx =>
    rw [if_neg hx]
    have hup : digV 0 (magS s) ≤ 9223372036854775807 := by
      rcases Nat.lt_or_ge (magS s).length 19 with h3 | h3
      · have h4 : 10 ^ (magS s).length ≤ 10 ^ 18 := Nat.pow_le_pow_right (by decide) (by omega)
        have h5 : (0 + 1) * 10 ^ (magS s).length = 10 ^ (magS s).length := by rw [Nat.zero_add, Nat.one_mul]
        omega
      · rcases Nat.lt_or_ge 9223372036854775807 (digV 0 (magS s)) with h4 | h4
        · exact (hx ⟨by omega, h4⟩).elim
        · exact h4
    show numS s = some (if (magS s).length < s.length then -(digV 0 (magS s) : Int) else digV 0 (magS s))
    by_cases hm : s.head? = some 45
    · obtain ⟨c, r, rfl⟩ : ∃ c r, s = c :: r := by
        cases s with
        | nil => cases hm
        | cons c r => exact ⟨c, r, rfl⟩
      obtain rfl : c = 45 := by simpa using hm
      have em : magS (45 :: r) = r := rfl
      clear hN ha' ha h hc hne
      rw [em] at hlen hlen2 hz hle hD hlt hx hup ⊢
      rw [if_pos (by simp)]
      refine num_iff.2 ⟨⟨by omega, by omega⟩, ?_⟩
      have h0 : 1 ≤ digV 0 r := by
        rcases Nat.eq_zero_or_pos (digV 0 r) with e | e
        · exfalso
          rw [e, decDigits_one (by decide)] at hD
          refine hz ⟨by rw [← hD]; rfl, ?_⟩
          rw [← hD]; decide
        · exact e
      rw [itoa_neg _ h0, hD]
    · have em : magS s = s := by unfold magS; rw [if_neg hm]
      rw [em] at hlen hlen2 hz hle hD hlt hx hup ⊢
      rw [if_neg (by omega)]
      refine num_iff.2 ⟨⟨by omega, by omega⟩, ?_⟩
      rw [itoa_nonneg, hD]
theorem ref_fine (s : List UInt8) : (refNum s).2 = (numS s).isSome := by
  cases h : (refNum s).2 with
  | true => rw [num_of_ref h]; rfl
  | false =>
    cases h2 : numS s with
    | none => rfl
    | some v => rw [refNum_ok h2] at h; cases h
end Go.Proofs.YtgeedjlbajmdkaaGreatDoor
namespace Go.Proofs.YtgeedjlbajmdkaaGreatDoor
open Go.Shelf Go.RowKit

theorem bdSize : (Tryz.prog.info? 139).map (·.size) = some 2 := by kernel_rfl
theorem bdByte : (Tryz.prog.info? 5).map (fun i => (i.zero, i.size, i.bytes)) = some (some (.int .u8 0), 1, 1) := by kernel_rfl
theorem bdLies : liesAt Tryz.prog Tryz.prog.depth 139 (2 / Tryz.prog.cellsOf 139) 0 139 1 = true := by kernel_rfl
/-- a builder of the call's own that holds these bytes -/
def Bd (w : World) (B b : Nat) (l : List UInt8) : Prop := Lib.IsBuilder 139 5 B b (Lib.byteCells l) w
set_option maxHeartbeats 1000000 in
set_option maxRecDepth 100000 in
theorem bd_used (b : Nat) (w : World) (h0 : w.cell? ⟨b, 0, none⟩ = some (.pointer (some ⟨b, 0, none⟩))) :
    Calls Tryz.prog 120 #[.pointer (some ⟨b, 0, none⟩)] w fun e w' => e = .returned (.tuple #[]) ∧ w' = w := by
  obtain ⟨j, hj, _⟩ := Option.map_eq_some_iff.1 bdSize
  go_enter Tryz.func120, Tryz.ntmps120
  go_wp2
  rw [Lib.run_neq_ptr_same w _ Tryz.underlying137 hj]
  go_wp2
  go_end0
  exact ⟨rfl, rfl⟩
set_option maxHeartbeats 1000000 in
set_option maxRecDepth 100000 in
theorem bd_fresh (b : Nat) (w : World) (h0 : w.cell? ⟨b, 0, none⟩ = some (.pointer none)) (hsh : w.shape? b = some (139, 2)) (hfz : w.frozen? ⟨b, 0, none⟩ = false) :
    Calls Tryz.prog 120 #[.pointer (some ⟨b, 0, none⟩)] w fun e w' => e = .returned (.tuple #[]) ∧ w' = w.setCell ⟨b, 0, none⟩ (.pointer (some ⟨b, 0, none⟩)) := by
  obtain ⟨j, hj, hjs⟩ := Option.map_eq_some_iff.1 bdSize
  go_enter Tryz.func120, Tryz.ntmps120
  go_wp2
  rw [Lib.run_to_unsafe w ⟨b, 0, none⟩ Tryz.underlying137 Tryz.underlying178 hj (by rw [hjs]; decide) hsh (Nat.zero_lt_succ 1)]
  simp only [Result.andThen]
  rw [Oper.upon_value]
  go_wp2
  rw [run_callFunc_extern Tryz.func140 (by kernel_rfl) (by kernel_rfl) (by kernel_rfl) (e := Extern.AbiNoEscape.same) (by kernel_rfl)]
  rw [Lib.run_noEscape]
  simp only [Result.andThen]
  rw [Oper.upon_value]
  go_wp2
  rw [Lib.run_from_unsafe w ⟨b, 0, none⟩ Tryz.underlying178 Tryz.underlying137 hj hsh bdLies]
  simp only [Result.andThen]
  rw [Oper.upon_value]
  go_wp2
  go_end0
  exact ⟨rfl, rfl⟩
theorem bd_check (B b : Nat) (bs : List Value) (w : World) (h : Lib.IsBuilder 139 5 B b bs w) :
    Calls Tryz.prog 120 #[.pointer (some ⟨b, 0, none⟩)] w fun e w' => e = .returned (.tuple #[]) ∧ (Lib.BuilderAt 139 5 B b (.pointer (some ⟨b, 0, none⟩)) bs w' ∧ Below B w w') := by
  rcases h with h | h
  · refine (bd_fresh b w h.cell0 h.shape h.frozen0).mono ?_
    rintro e w' ⟨rfl, rfl⟩
    exact ⟨rfl, h.used _, (Below.refl B w).setCell (p := ⟨b, 0, none⟩) h.1 _⟩
  · refine (bd_used b w h.cell0).mono ?_
    rintro e w' ⟨rfl, rfl⟩
    exact ⟨rfl, h, Below.refl B _⟩
theorem bd_check_kept (B b : Nat) (bs : List Value) (w : World) (h : Lib.IsBuilder 139 5 B b bs w) :
    Calls Tryz.prog 120 #[.pointer (some ⟨b, 0, none⟩)] w fun e w' => e = .returned (.tuple #[]) ∧ (Lib.BuilderAt 139 5 B b (.pointer (some ⟨b, 0, none⟩)) bs w' ∧ Below B w w' ∧ ∀ q, q ≠ b → w'.heap[q]? = w.heap[q]?) := by
  rcases h with h | h
  · refine (bd_fresh b w h.cell0 h.shape h.frozen0).mono ?_
    rintro e w' ⟨rfl, rfl⟩
    exact ⟨rfl, h.used _, (Below.refl B w).setCell (p := ⟨b, 0, none⟩) h.1 _, fun q hq => Below.heap_setCell _ _ _ _ (fun e => hq (by simp [e]))⟩
  · refine (bd_used b w h.cell0).mono ?_
    rintro e w' ⟨rfl, rfl⟩
    exact ⟨rfl, h, Below.refl B _, fun _ _ => rfl⟩
set_option maxHeartbeats 2000000 in
set_option maxRecDepth 100000 in
theorem bd_write_kept (B b : Nat) (l : List UInt8) (s : ByteArray) (w : World) (h : Bd w B b l) (hlen : l.length + s.size ≤ 140737488355328) (hBw : B ≤ w.heap.size) :
    Calls Tryz.prog 91 #[.pointer (some ⟨b, 0, none⟩), .string s] w fun e w' => e = .returned (.tuple #[.int .i64 s.size, .nilIface]) ∧ (Bd w' B b (l ++ s.data.toList) ∧ Below B w w' ∧ ∀ (q : Nat) (x : Obj), w.heap[q]? = some x → q ≠ b → (∀ c fr, x ≠ .cells c 5 fr) → w'.heap[q]? = some x) := by
  obtain ⟨i0, hi, hz0, hz1, hz2⟩ := info_parts bdByte
  unfold Bd at h
  generalize hbs : Lib.byteCells l = bs at h
  have hbl : bs.length = l.length := by rw [← hbs, Lib.byteCells_length]
  rw [← hbl] at hlen
  clear hbl
  go_enter Tryz.func91, Tryz.ntmps91
  go_wp2_with (go_at_call 120; refine (bd_check_kept B b bs _ h).mono ?_)
  rintro e w1 ⟨rfl, h1, hb1, hkc⟩
  have HKC := Lib.hid hkc
  clear hkc
  obtain ⟨hB, v, hbk, hown, hne⟩ := h1
  have c0 : w1.cell? ⟨b, 0, none⟩ = some (.pointer (some ⟨b, 0, none⟩)) := by rw [Lib.cell_of_heap hbk]; rfl
  have c1 : w1.cell? ⟨b, 1, none⟩ = some v := by rw [Lib.cell_of_heap hbk]; rfl
  go_wp2_with (at_builtin; refine Lib.wpList_append_own_string _ rfl _ _ 135 9 rfl B 5 i0 Tryz.underlying135 Tryz.underlying9 hi hz0 hz1 hz2 _ _ _ rfl hown s rfl ?c3 ?c4 ?c5 ?_)
  case c3 => unfold maxLen; omega
  case c4 => omega
  case c5 => have := hb1.size; omega
  intro v' w2 hown' hgrow _
  have hlt : b < w1.heap.size := by
    rcases Nat.lt_or_ge b w1.heap.size with h' | h'
    · exact h'
    · simp [Array.getElem?_eq_none h'] at hbk
  have hb2 : w2.heap[b]? = some (.cells #[.pointer (some ⟨b, 0, none⟩), v] 139 (0, 0)) := by
    rw [hgrow.block b hlt (fun e => hne e.symm)]
    exact hbk
  have d0 : w2.cell? ⟨b, 0, none⟩ = some (.pointer (some ⟨b, 0, none⟩)) := by rw [Lib.cell_of_heap hb2]; rfl
  have d1 : w2.cell? ⟨b, 1, none⟩ = some v := by rw [Lib.cell_of_heap hb2]; rfl
  have f1 : w2.frozen? ⟨b, 1, none⟩ = false := Lib.frozen_of_heap hb2 1
  obtain ⟨ao, n', cap, rfl⟩ : ∃ ao n' cap, v' = .slice ao n' cap := by
    rcases hown'.2 with ⟨hv, _⟩ | ⟨g, cap, cur, hv, _⟩
    · exact ⟨_, _, _, hv⟩
    · exact ⟨_, _, _, hv⟩
  go_wp2
  go_ret2
  refine ⟨rfl, ?_, ?_, ?_⟩
  · have hq := Lib.BuilderAt.put (T := 139) (e := 5) hB hb2 (bs' := bs ++ Lib.strCells s) (by simpa [Lib.strCells_length] using hown') (by decide)
    rw [← hbs] at hq
    have e : Lib.byteCells (l ++ s.data.toList) = Lib.byteCells l ++ Lib.strCells s := by simp [Lib.byteCells, Lib.strCells]
    unfold Bd
    rw [e]
    exact .inr hq
  · exact (hb1.grown hgrow (by have := hb1.size; omega) (fun k hk => (hown.lt k hk).1)).setCell (p := ⟨b, 1, none⟩) hB _
  · intro q x hq hqb hqx
    rw [Below.heap_setCell _ _ _ _ (fun e => hqb (by simp [e]))]
    have h1 := HKC.out q hqb
    have hlt1 : q < w1.heap.size := by
      have := (Array.getElem?_eq_some_iff.1 (h1.trans hq)).1
      exact this
    rw [hgrow.block q hlt1 (fun e => by
      rcases hown.2 with ⟨rfl, _⟩ | ⟨g, cap, cur, rfl, _, hg, _⟩
      · cases e
      · simp only [Value.ownBlock, Option.some.injEq] at e
        subst e
        rw [h1, hq] at hg
        simp only [Option.some.injEq] at hg
        exact hqx _ _ hg), h1, hq]
theorem bd_write (B b : Nat) (l : List UInt8) (s : ByteArray) (w : World) (h : Bd w B b l) (hlen : l.length + s.size ≤ 140737488355328) (hBw : B ≤ w.heap.size) :
    Calls Tryz.prog 91 #[.pointer (some ⟨b, 0, none⟩), .string s] w fun e w' => e = .returned (.tuple #[.int .i64 s.size, .nilIface]) ∧ (Bd w' B b (l ++ s.data.toList) ∧ Below B w w') :=
  (bd_write_kept B b l s w h hlen hBw).mono fun _ _ ⟨a, b, c, _⟩ => ⟨a, b, c⟩
theorem bd_string (B b : Nat) (l : List UInt8) (w : World) (h : Bd w B b l) (hBw : B ≤ w.heap.size) :
    Calls Tryz.prog 92 #[.pointer (some ⟨b, 0, none⟩)] w fun e w' => e = .returned (.string (tx l)) ∧ Below B w w' := by
  exact Tryz.Builder_String_any B b l w h hBw
theorem bd_new (w : World) : Bd (w.alloc (.cells #[.pointer none, .slice none 0 0] 139)) w.heap.size w.heap.size [] := Lib.fresh_isBuilder _ _ _
end Go.Proofs.YtgeedjlbajmdkaaGreatDoor
/- The text of pairs, and how it is read (no program). -/
namespace Go.Proofs.YtgeedjlbajmdkaaGreatDoor
open Go.RowKit

def lineP (p : Pr) : List UInt8 := Lib.itoa p.1.size ++ 58 :: (p.1.data.toList ++ 32 :: (Lib.itoa p.2 ++ [10]))
def textP (l : List Pr) : List UInt8 := l.flatMap lineP
/-- a key, and what is behind the blank behind it -/
def headP (s : List UInt8) : Option (List UInt8 × List UInt8) :=
  match numS (cutAt 58 s).1 with
  | none => none
  | some n => if (cutAt 58 s).2.2 = true ∧ 0 ≤ n ∧ n < (cutAt 58 s).2.1.length ∧ (cutAt 58 s).2.1[n.toNat]? = some 32 then some ((cutAt 58 s).2.1.take n.toNat, (cutAt 58 s).2.1.drop (n.toNat + 1)) else none
def valP (r : List UInt8) : Option (Int × List UInt8) :=
  match numS (cutAt 10 r).1 with
  | none => none
  | some v => if (cutAt 10 r).2.2 = true then some (v, (cutAt 10 r).2.1) else none
def oneP (s : List UInt8) : Option (Pr × List UInt8) :=
  match headP s with
  | none => none
  | some (k, r) => match valP r with
    | none => none
    | some (v, m) => some ((tx k, v), m)
theorem cutAt_len (c : UInt8) (s : List UInt8) : (cutAt c s).1.length + (cutAt c s).2.1.length ≤ s.length ∧ ((cutAt c s).2.2 = true → (cutAt c s).1.length + (cutAt c s).2.1.length + 1 = s.length) := by
  rcases first_of c s with h | ⟨A, B, rfl, h⟩
  · rw [cutAt_no h]; simp
  · rw [cutAt_yes h]; simp; omega
theorem headP_some {s k r : List UInt8} (h : headP s = some (k, r)) : k.length + r.length + 1 < s.length := by
  unfold headP at h
  split at h
  · cases h
  · next n hn =>
    split at h
    · next hc =>
      obtain ⟨h1, h2, h3, _⟩ := hc
      injection h with h
      injection h with ha hb
      have := (cutAt_len 58 s).2 h1
      rw [← ha, ← hb, List.length_take, List.length_drop]
      omega
    · cases h
theorem valP_some {r m : List UInt8} {v : Int} (h : valP r = some (v, m)) : m.length < r.length ∧ -9223372036854775808 ≤ v ∧ v ≤ 9223372036854775807 := by
  unfold valP at h
  split at h
  · cases h
  · next u hu =>
    split at h
    · next hc =>
      injection h with h
      injection h with ha hb
      have := (cutAt_len 10 r).2 hc
      have h3 := (num_iff.1 hu).1
      rw [← hb, ← ha]
      exact ⟨by omega, h3⟩
    · cases h
theorem oneP_some {s m : List UInt8} {p : Pr} (h : oneP s = some (p, m)) : m.length + p.1.size + 2 < s.length ∧ -9223372036854775808 ≤ p.2 ∧ p.2 ≤ 9223372036854775807 := by
  unfold oneP at h
  split at h
  · cases h
  · next k r hk =>
    split at h
    · cases h
    · next v m' hv =>
      injection h with h
      injection h with ha hb
      have h1 := headP_some hk
      have h2 := valP_some hv
      rw [← ha, ← hb, tx_size]
      exact ⟨by omega, h2.2⟩
def parseF : Nat → List UInt8 → Option (List Pr)
  | 0, s => if s = [] then some [] else none
  | n + 1, s => if s = [] then some [] else match oneP s with
    | none => none
    | some (p, m) => (parseF n m).map (p :: ·)
theorem parseF_more : ∀ (n m : Nat) (s : List UInt8), s.length ≤ n → s.length ≤ m → parseF n s = parseF m s
  | 0, 0, s, _, _ => rfl
  | 0, m + 1, s, h, _ => by
    obtain rfl : s = [] := List.length_eq_zero_iff.1 (by omega)
    simp [parseF]
  | n + 1, 0, s, _, h => by
    obtain rfl : s = [] := List.length_eq_zero_iff.1 (by omega)
    simp [parseF]
  | n + 1, m + 1, s, h, h2 => by
    simp only [parseF]
    by_cases hs : s = []
    · rw [if_pos hs, if_pos hs]
    · rw [if_neg hs, if_neg hs]
      cases ho : oneP s with
      | none => rfl
      | some pm =>
        obtain ⟨p, r⟩ := pm
        have := (oneP_some ho).1
        simp only
        rw [parseF_more n m r (by omega) (by omega)]
def parseP (s : List UInt8) : Option (List Pr) := parseF s.length s
theorem parseP_nil : parseP [] = some [] := rfl
theorem parseP_none {s : List UInt8} (hs : s ≠ []) (h : oneP s = none) : parseP s = none := by
  unfold parseP
  obtain ⟨n, hn⟩ : ∃ n, s.length = n + 1 := ⟨s.length - 1, by have := List.length_pos_iff.2 hs; omega⟩
  rw [hn]
  simp only [parseF]
  rw [if_neg hs, h]
theorem parseP_some {s m : List UInt8} {p : Pr} (h : oneP s = some (p, m)) : parseP s = (parseP m).map (p :: ·) := by
  have h1 := (oneP_some h).1
  have hs : s ≠ [] := fun e => by rw [e] at h1; simp at h1
  unfold parseP
  obtain ⟨n, hn⟩ : ∃ n, s.length = n + 1 := ⟨s.length - 1, by have := List.length_pos_iff.2 hs; omega⟩
  rw [hn]
  simp only [parseF]
  rw [if_neg hs, h]
  simp only
  rw [parseF_more n m.length m (by omega) (Nat.le_refl _)]
/-- what is read is no more than its text has signs -/
theorem parseP_le : ∀ (n : Nat) (s : List UInt8) (l : List Pr), s.length ≤ n → parseP s = some l → l.length ≤ s.length ∧ ∀ p ∈ l, p.1.size ≤ s.length ∧ -9223372036854775808 ≤ p.2 ∧ p.2 ≤ 9223372036854775807 := by
  intro n
  induction n with
  | zero =>
    intro s l hs h
    obtain rfl : s = [] := List.length_eq_zero_iff.1 (by omega)
    rw [parseP_nil] at h; injection h with h; subst h
    exact ⟨Nat.le_refl _, fun p hp => by cases hp⟩
  | succ n ih =>
    intro s l hs h
    by_cases h0 : s = []
    · subst h0
      rw [parseP_nil] at h; injection h with h; subst h
      exact ⟨Nat.le_refl _, fun p hp => by cases hp⟩
    · cases ho : oneP s with
      | none => rw [parseP_none h0 ho] at h; cases h
      | some pm =>
        obtain ⟨p, m⟩ := pm
        have h1 := oneP_some ho
        rw [parseP_some ho] at h
        cases hm : parseP m with
        | none => rw [hm] at h; cases h
        | some q =>
          rw [hm] at h
          injection h with h
          subst h
          obtain ⟨a, b⟩ := ih m q (by omega) hm
          refine ⟨by simp only [List.length_cons]; omega, fun x hx => ?_⟩
          rcases List.mem_cons.1 hx with rfl | hx
          · exact ⟨by omega, h1.2⟩
          · obtain ⟨c, d⟩ := b x hx
            exact ⟨by omega, d⟩
/-- no sign other than digits and '-' -/
theorem itoa_not {v : Int} {c : UInt8} (h45 : c ≠ 45) (hd : isDig c = false) : c ∉ Lib.itoa v := by
  intro hc
  unfold Lib.itoa at hc
  split at hc
  · rcases List.mem_cons.1 hc with rfl | hc
    · exact h45 rfl
    · have := (dec_dig v.natAbs).1 c hc
      rw [hd] at this; cases this
  · have := (dec_dig v.toNat).1 c hc
    rw [hd] at this; cases this
theorem oneP_line (p : Pr) (r : List UInt8) (hk : p.1.size ≤ 9223372036854775807) (hv : -9223372036854775808 ≤ p.2 ∧ p.2 ≤ 9223372036854775807) : oneP (lineP p ++ r) = some (p, r) := by
  obtain ⟨k, v⟩ := p
  replace hk : k.size ≤ 9223372036854775807 := hk
  replace hv : -9223372036854775808 ≤ v ∧ v ≤ 9223372036854775807 := hv
  have e1 : lineP (k, v) ++ r = Lib.itoa k.size ++ 58 :: (k.data.toList ++ 32 :: (Lib.itoa v ++ 10 :: r)) := by simp [lineP]
  have hks : k.data.toList.length = k.size := Array.length_toList
  have hh : headP (lineP (k, v) ++ r) = some (k.data.toList, Lib.itoa v ++ 10 :: r) := by
    unfold headP
    rw [e1, cutAt_yes (itoa_not (by decide) (by decide)), num_iff.2 ⟨⟨by omega, by omega⟩, rfl⟩]
    simp only
    have e2 : k.data.toList ++ 32 :: (Lib.itoa v ++ 10 :: r) = (k.data.toList ++ [32]) ++ (Lib.itoa v ++ 10 :: r) := by simp
    have e3 : (k.data.toList ++ 32 :: (Lib.itoa v ++ 10 :: r))[((k.size : Nat) : Int).toNat]? = some 32 := by
      rw [Int.toNat_natCast, List.getElem?_append_right (by omega), hks, Nat.sub_self]; rfl
    have e4 : ((k.size : Nat) : Int) < ((k.data.toList ++ 32 :: (Lib.itoa v ++ 10 :: r)).length : Int) := by
      rw [List.length_append, List.length_cons, hks]; omega
    rw [if_pos ⟨trivial, by omega, e4, e3⟩, Int.toNat_natCast]
    congr 2
    · rw [← hks, List.take_left]
    · rw [e2, List.drop_left' (by simp [hks])]
  have hvv : valP (Lib.itoa v ++ 10 :: r) = some (v, r) := by
    unfold valP
    rw [cutAt_yes (itoa_not (by decide) (by decide)), num_iff.2 ⟨hv, rfl⟩]
    rfl
  unfold oneP
  rw [hh]
  simp only
  rw [hvv]
  simp only
  rw [tx_of]
/-- what is written is read -/
theorem parse_text : ∀ (l : List Pr), (∀ p ∈ l, p.1.size ≤ 9223372036854775807 ∧ -9223372036854775808 ≤ p.2 ∧ p.2 ≤ 9223372036854775807) → parseP (textP l) = some l
  | [], _ => rfl
  | p :: l, h => by
    have hp := h p (List.mem_cons_self ..)
    have e : textP (p :: l) = lineP p ++ textP l := rfl
    rw [e, parseP_some (oneP_line p (textP l) hp.1 hp.2), parse_text l fun x hx => h x (List.mem_cons_of_mem _ hx)]
    rfl
end Go.Proofs.YtgeedjlbajmdkaaGreatDoor
