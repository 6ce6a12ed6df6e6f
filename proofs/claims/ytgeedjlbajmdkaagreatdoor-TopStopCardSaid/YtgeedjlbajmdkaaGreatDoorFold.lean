/- Package fold: Check, First, Two, and the reference Two: what each returns. -/
import Derived.Test.YtgeedjlbajmdkaaGreatDoorErr
import Derived.StillTailTactics
import Derived.Maps.AppendAt
import Derived.Test.YtgeedjlbajmdkaaGreatDoorPairs
set_option linter.unusedSimpArgs false
set_option linter.unusedVariables false
/- Slices that a call makes itself: 'Own': a list's cells in a row of the call's own; laws over any program. -/
namespace Go.Proofs.YtgeedjlbajmdkaaGreatDoor
open Go.RowKit

/-- v is a slice of the call's own (its block is 'base' or later) that holds the list l. -/
def Own {α : Type} (sz : Nat) (enc : α → List Value) (e : TypeId) (w : World) (base : Nat) (v : Value) (l : List α) : Prop :=
  (∃ ao cap, v = .slice ao l.length cap) ∧ w.ownsRow base e sz v l.length (l.flatMap enc)

section
variable {α : Type} {sz : Nat} {enc : α → List Value} {e : TypeId} {w : World} {base : Nat} {v : Value} {l : List α}

theorem Own.nil : Own sz enc e w base (.slice none 0 0) ([] : List α) := ⟨⟨none, 0, rfl⟩, World.ownsRow_nil _ _ _ _⟩

theorem Own.addr (h : Own sz enc e w base v l) (h0 : 0 < l.length) : ∃ g cap, v = .slice (some ⟨g, 0, none⟩) l.length cap ∧ base ≤ g ∧ g < w.heap.size ∧ (∀ j, w.cell? ⟨g, j, none⟩ = (l.flatMap enc)[j]? ∨ l.length * sz ≤ j) ∧ ∀ j, w.frozen? ⟨g, j, none⟩ = false := by
  obtain ⟨_, hr⟩ := h
  obtain ⟨hl, hh⟩ := hr
  rcases hh with ⟨_, hn⟩ | ⟨g, cap, cur, rfl, hb, hg, hc, hm, hcs, ht⟩
  · omega
  · refine ⟨g, cap, rfl, hb, (Array.getElem?_eq_some_iff.1 hg).1, fun j => ?_, fun j => ?_⟩
    · by_cases hj : j < l.length * sz
      · exact .inl (World.ownsRow.cellAt ⟨hl, .inr ⟨g, cap, cur, rfl, hb, hg, hc, hm, hcs, ht⟩⟩ j hj)
      · exact .inr (by omega)
    · exact World.ownsRow.frozenAt ⟨hl, .inr ⟨g, cap, cur, rfl, hb, hg, hc, hm, hcs, ht⟩⟩ j

theorem Own.sl (hsz : ∀ x, (enc x).length = sz) {ao : Option Addr} {cap : Nat} (h : Own sz enc e w base (.slice ao l.length cap) l) : Sl sz enc w ao l := by
  intro h0
  obtain ⟨g, cap', hv, hb, hg, hc, _⟩ := h.addr h0
  cases hv
  refine ⟨g, 0, rfl, hg, fun i x j v hi hj => ?_⟩
  have hlt : i < l.length := (List.getElem?_eq_some_iff.1 hi).1
  have hj' : j < sz := by rw [← hsz x]; exact (List.getElem?_eq_some_iff.1 hj).1
  rcases hc (i * sz + j) with h1 | h1
  · rw [Nat.zero_add, h1]; exact flat_get hsz hi hj
  · exfalso
    have : (i + 1) * sz ≤ l.length * sz := Nat.mul_le_mul_right _ hlt
    rw [Nat.succ_mul] at this; omega

theorem Own.lt (h : Own sz enc e w base v l) : ∀ k, v.ownBlock = some k → base ≤ k ∧ k < w.heap.size := h.2.lt

theorem Own.later {w' : World} (h : Own sz enc e w base v l) (hb : Below w.heap.size w w') : Own sz enc e w' base v l := by
  obtain ⟨h1, hr⟩ := h
  refine ⟨h1, ?_⟩
  obtain ⟨hl, hh⟩ := hr
  refine ⟨hl, ?_⟩
  rcases hh with h | ⟨g, cap, cur, rfl, hbg, hg, r⟩
  · exact .inl h
  · exact .inr ⟨g, cap, cur, rfl, hbg, by rw [hb.block g (Array.getElem?_eq_some_iff.1 hg).1]; exact hg, r⟩

theorem Own.alloc (h : Own sz enc e w base v l) (o : Obj) : Own sz enc e (w.alloc o) base v l := ⟨h.1, h.2.alloc o⟩
theorem Own.drew (h : Own sz enc e w base v l) : Own sz enc e w.drew base v l := h
theorem Own.drewN (h : Own sz enc e w base v l) (n : Nat) : Own sz enc e (w.drewN n) base v l := h
theorem Own.base_le (h : Own sz enc e w base v l) {b : Nat} (hb : b ≤ base) : Own sz enc e w b v l := by
  obtain ⟨h1, hl, hh⟩ := h
  refine ⟨h1, hl, ?_⟩
  rcases hh with h | ⟨g, cap, cur, rfl, hbg, r⟩
  · exact .inl h
  · exact .inr ⟨g, cap, cur, rfl, by omega, r⟩

theorem Own.grown {w' : World} {v' : Value} {l2 : List α} (h : w'.ownsRow base e sz v' (l.length + l2.length) (l.flatMap enc ++ l2.flatMap enc)) : Own sz enc e w' base v' (l ++ l2) := by
  refine ⟨?_, by rw [List.length_append, List.flatMap_append]; exact h⟩
  rw [List.length_append]
  rcases h.2 with ⟨rfl, hn⟩ | ⟨g, cap, cur, rfl, _⟩
  · exact ⟨none, 0, by rw [hn]⟩
  · exact ⟨_, cap, rfl⟩

/-- An element changed in place. -/
theorem flat_set (hsz : ∀ x, (enc x).length = sz) : ∀ {l : List α} {k : Nat} {x y : α} {j : Nat} {u : Value}, l[k]? = some x → j < sz → enc y = (enc x).set j u → (l.set k y).flatMap enc = (l.flatMap enc).set (k * sz + j) u
  | [], k, x, y, j, u, h, _, _ => by simp at h
  | a :: l, 0, x, y, j, u, h, hj, hy => by
    have e : a = x := by simpa using h
    subst e
    rw [List.set_cons_zero, List.flatMap_cons, List.flatMap_cons, hy, Nat.zero_mul, Nat.zero_add, List.set_append_left _ _ (by rw [hsz]; exact hj)]
  | a :: l, k + 1, x, y, j, u, h, hj, hy => by
    have h' : l[k]? = some x := by simpa using h
    rw [List.set_cons_succ, List.flatMap_cons, List.flatMap_cons, flat_set hsz h' hj hy, List.set_append_right _ _ (by rw [hsz, Nat.succ_mul]; omega), hsz]
    congr 2
    rw [Nat.succ_mul]; omega

theorem Own.set (hsz : ∀ x, (enc x).length = sz) {g cap k j : Nat} {x y : α} {u : Value} (h : Own sz enc e w base (.slice (some ⟨g, 0, none⟩) l.length cap) l) (hk : l[k]? = some x) (hj : j < sz) (hy : enc y = (enc x).set j u) :
    Own sz enc e (w.setCell ⟨g, k * sz + j, none⟩ u) base (.slice (some ⟨g, 0, none⟩) l.length cap) (l.set k y) := by
  refine ⟨⟨_, cap, by rw [List.length_set]⟩, ?_⟩
  rw [List.length_set, flat_set hsz hk hj hy]
  exact (World.ownsRow.stored h.2 _ _).1

/-- Nothing below B is one of the row's cells: what an append leaves, below B. -/
theorem Own.below {w0 w' : World} (h : Own sz enc e w base v l) (hb : Below base w0 w) (hg : w.grownBy w' v.ownBlock) (hB : base ≤ w.heap.size) : Below base w0 w' :=
  hb.grown hg hB fun k hk => (h.lt k hk).1

theorem news_at {w : World} {cs : Array Value} {t : TypeId} {fr : Nat × Nat} {b : Nat} {l : List Value} (hb : b = w.heap.size) (hl : cs.toList = l) : ∀ (j : Nat) (u : Value), l[j]? = some u → (w.alloc (.cells cs t fr)).cell? ((⟨b, 0, none⟩ : Addr).add j) = some u := by
  subst hb hl
  intro j u h
  have h' : cs[j]? = some u := by simpa using h
  have e : ((⟨w.heap.size, 0, none⟩ : Addr).add j) = ⟨w.heap.size, j, none⟩ := by unfold Addr.add; split <;> simp_all
  rw [e]
  unfold World.cell?
  rw [heap_new]
  simp [h']

theorem wpList_append_one {P : Program} {ops : Array Oper} {rest : List Oper} {o : Oper} {a : Act} {Q : Exit → Act → World → Prop} {w0 : World} {bytes : Nat} (hsz : ∀ x, (enc x).length = sz) (s x : Operand) (t : TypeId) (i : TypeInfo) (z : Value) (hgd : o.guard = none)
    (ho : o.op = .call { callee := .builtin .append, args := #[s, x], argTypes := #[t, t] })
    (ht : P.underlying t = some (.slice e)) (hi : P.info? e = some i) (hz : i.zero = some z) (hsize : i.size = sz) (hby : i.bytes = bytes) (hzs : z.cells.size = sz) (hpos : 0 < sz) (hb100 : bytes ≤ 100)
    (hown : Own sz enc e w base v l) (hbel : Below base w0 w) (hB : base ≤ w.heap.size) (hlen : l.length + 1 ≤ 1000000000)
    (hs : a.eval s = v) (y : α) (ad : Addr) (c : Nat) (hx : a.eval x = .slice (some ad) 1 c)
    (hnews : ∀ (j : Nat) (u : Value), (enc y)[j]? = some u → w.cell? (ad.add j) = some u) (h1 : ∀ u ∈ enc y, u.oneCell' = true)
    (h : ∀ v' w', Own sz enc e w' base v' (l ++ [y]) → Below base w0 w' → w.grownBy w' v.ownBlock → (v'.ownBlock = v.ownBlock ∨ v'.ownBlock = some w.heap.size) → wpList P ops Q rest (a.put o.dst v') w') : wpList P ops Q (o :: rest) a w := by
  refine wpList_append_own_at _ hgd s x t ho base e i z sz bytes ht hi hz hsize hby hzs hpos v l.length _ hs hown.2 ad 1 c (enc y) hx (by rw [hsz]; omega) hnews h1 (by unfold maxLen; omega) ?_ hB ?_
  · have : (l.length + 1) * bytes ≤ 1000000000 * 100 := Nat.mul_le_mul hlen hb100
    omega
  · intro v' w' hr hg _ hat
    exact h v' w' (Own.grown (l2 := [y]) (by simpa using hr)) (hown.below hbel hg hB) hg hat
end


section
variable {α : Type} {sz : Nat} {enc : α → List Value} {e : TypeId} {w : World} {base : Nat} {v : Value} {l : List α}
/-- A store into another block. -/
theorem Own.setOther {a : Addr} (h : Own sz enc e w base v l) (hne : v.ownBlock ≠ some a.block) (u : Value) : Own sz enc e (w.setCell a u) base v l := by
  obtain ⟨h1, hl, hh⟩ := h
  refine ⟨h1, hl, ?_⟩
  rcases hh with h | ⟨g, cap, cur, rfl, hbg, hg, r⟩
  · exact .inl h
  · exact .inr ⟨g, cap, cur, rfl, hbg, by rw [Below.heap_setCell w a u g (fun e => hne (by rw [e]; rfl))]; exact hg, r⟩

theorem Own.len {a : Option Addr} {n cap : Nat} (h : Own sz enc e w base (.slice a n cap) l) : n = l.length := by
  obtain ⟨⟨ao, c, hv⟩, _⟩ := h
  cases hv; rfl
theorem Own.cellAt (hsz : ∀ x, (enc x).length = sz) {g n cap i j : Nat} {x : α} {u : Value} (h : Own sz enc e w base (.slice (some ⟨g, 0, none⟩) n cap) l) (hi : l[i]? = some x) (hj : (enc x)[j]? = some u) : w.cell? ⟨g, i * sz + j, none⟩ = some u := by
  obtain rfl := h.len
  obtain ⟨b, off, e1, _, hc⟩ := h.sl hsz (by have := (List.getElem?_eq_some_iff.1 hi).1; omega)
  cases e1
  simpa using hc i x j u hi hj
theorem Own.frozenAt {g n cap : Nat} (h : Own sz enc e w base (.slice (some ⟨g, 0, none⟩) n cap) l) (j : Nat) : w.frozen? ⟨g, j, none⟩ = false := by
  obtain rfl := h.len
  exact World.ownsRow.frozenAt h.2 j
theorem Own.set' (hsz : ∀ x, (enc x).length = sz) {g n cap k j : Nat} {x y : α} {u : Value} (h : Own sz enc e w base (.slice (some ⟨g, 0, none⟩) n cap) l) (hk : l[k]? = some x) (hj : j < sz) (hy : enc y = (enc x).set j u) :
    Own sz enc e (w.setCell ⟨g, k * sz + j, none⟩ u) base (.slice (some ⟨g, 0, none⟩) n cap) (l.set k y) := by
  obtain rfl := h.len
  exact Own.set hsz h hk hj hy
theorem Own.blk {g n cap : Nat} (h : Own sz enc e w base (.slice (some ⟨g, 0, none⟩) n cap) l) : base ≤ g ∧ g < w.heap.size := h.lt g rfl

theorem mid_get {A : List α} {n k : Nat} {x : α} (h : A.length = k) (hn : 0 < n) : (A ++ List.replicate n x)[k]? = some x := by
  rw [List.getElem?_append_right (by omega), List.getElem?_replicate, if_pos (by omega)]
theorem mid_set {A : List α} {n k : Nat} {x y : α} (h : A.length = k) (hn : 0 < n) : (A ++ List.replicate n x).set k y = (A ++ [y]) ++ List.replicate (n - 1) x := by
  obtain ⟨m, rfl⟩ : ∃ m, n = m + 1 := ⟨n - 1, by omega⟩
  rw [List.set_append_right _ _ (by omega), List.append_assoc, List.replicate_succ, show k - A.length = 0 by omega, List.set_cons_zero]
  rfl

theorem Own.lit {g : Nat} {cs : Array Value} (hsz : ∀ x, (enc x).length = sz) (hb : w.heap[g]? = some (.cells cs e (0, 0))) (hg : base ≤ g) (hc : cs.toList = l.flatMap enc) (hm : l.length ≤ maxLen) : Own sz enc e w base (.slice (some ⟨g, 0, none⟩) l.length l.length) l := by
  have hl : ∀ l : List α, (l.flatMap enc).length = l.length * sz := by
    intro l
    induction l with
    | nil => simp
    | cons a l ih => rw [List.flatMap_cons, List.length_append, ih, hsz, List.length_cons, Nat.succ_mul]; omega
  have hcs : cs.size = l.length * sz := by rw [← hl, ← hc]; simp
  exact ⟨⟨_, _, rfl⟩, hl l, .inr ⟨g, l.length, cs, rfl, hg, hb, Nat.le_refl _, hm, hcs, by rw [List.take_of_length_le (by simp [hcs]), hc]⟩⟩

theorem wpList_append_list {P : Program} {ops : Array Oper} {rest : List Oper} {o : Oper} {a : Act} {Q : Exit → Act → World → Prop} {w0 : World} {bytes : Nat} (hsz : ∀ x, (enc x).length = sz) (s x : Operand) (t : TypeId) (i : TypeInfo) (z : Value) (hgd : o.guard = none)
    (ho : o.op = .call { callee := .builtin .append, args := #[s, x], argTypes := #[t, t] })
    (ht : P.underlying t = some (.slice e)) (hi : P.info? e = some i) (hz : i.zero = some z) (hsize : i.size = sz) (hby : i.bytes = bytes) (hzs : z.cells.size = sz) (hpos : 0 < sz) (hb100 : bytes ≤ 100)
    (hown : Own sz enc e w base v l) (hbel : Below base w0 w) (hB : base ≤ w.heap.size) (l2 : List α) (hlen : l.length + l2.length ≤ 1000000000)
    (hs : a.eval s = v) (ad : Addr) (c m : Nat) (hm : m = l2.length) (hx : a.eval x = .slice (some ad) m c)
    (hnews : ∀ (j : Nat) (u : Value), (l2.flatMap enc)[j]? = some u → w.cell? (ad.add j) = some u) (h1 : ∀ u ∈ l2.flatMap enc, u.oneCell' = true)
    (h : ∀ v' w', Own sz enc e w' base v' (l ++ l2) → Below base w0 w' → w.grownBy w' v.ownBlock → (v'.ownBlock = v.ownBlock ∨ v'.ownBlock = some w.heap.size) → wpList P ops Q rest (a.put o.dst v') w') : wpList P ops Q (o :: rest) a w := by
  have hl : ∀ l : List α, (l.flatMap enc).length = l.length * sz := by
    intro l
    induction l with
    | nil => simp
    | cons a l ih => rw [List.flatMap_cons, List.length_append, ih, hsz, List.length_cons, Nat.succ_mul]; omega
  subst hm
  refine wpList_append_own_at _ hgd s x t ho base e i z sz bytes ht hi hz hsize hby hzs hpos v l.length _ hs hown.2 ad l2.length c (l2.flatMap enc) hx (hl l2) hnews h1 (by unfold maxLen; omega) ?_ hB ?_
  · have : (l.length + l2.length) * bytes ≤ 1000000000 * 100 := Nat.mul_le_mul hlen hb100
    omega
  · intro v' w' hr hg _ hat
    exact h v' w' (Own.grown hr) (hown.below hbel hg hB) hg hat

theorem one_flat (henc : ∀ x, ∀ u ∈ enc x, u.oneCell' = true) : ∀ u ∈ l.flatMap enc, u.oneCell' = true := by
  intro u hu
  obtain ⟨x, _, hx⟩ := List.mem_flatMap.1 hu
  exact henc x u hx
theorem one_int : ∀ x, ∀ u ∈ encInt x, u.oneCell' = true := fun x u h => by simp [encInt] at h; subst h; rfl
theorem one_bool : ∀ x, ∀ u ∈ encBool x, u.oneCell' = true := fun x u h => by simp [encBool] at h; subst h; rfl
theorem one_pair : ∀ x, ∀ u ∈ encP x, u.oneCell' = true := fun x u h => by simp [encP] at h; rcases h with h | h <;> subst h <;> rfl

theorem madeCells_list (hsz : ∀ x, (enc x).length = sz) (z : Value) (d : α) (hz : enc d = z.cells.toList) (n : Nat) (hs : z.cells.size = sz) : (madeCells z.cells (n * sz)).toList = (List.replicate n d).flatMap enc := by
  have hlen : ((List.replicate n d).flatMap enc).length = n * sz := by
    induction n with
    | zero => simp
    | succ n ih => rw [List.replicate_succ, List.flatMap_cons, List.length_append, ih, hsz, Nat.succ_mul]; omega
  apply List.ext_getElem?
  intro j
  by_cases hj : j < n * sz
  · have h0 : 0 < sz := by
      rcases Nat.eq_zero_or_pos sz with h | h
      · subst h; simp at hj
      · exact h
    have hi : j / sz < n := by
      rw [Nat.div_lt_iff_lt_mul h0]; exact hj
    have hm : j % sz < sz := Nat.mod_lt _ h0
    have hd : (enc d)[j % sz]? = some (z.cells[j % sz]'(by rw [hs]; exact hm)) := by
      rw [hz]; simp [hs, hm]
    have h1 := flat_get (enc := enc) hsz (l := List.replicate n d) (i := j / sz) (x := d) (by simp [hi]) hd
    rw [show j / sz * sz + j % sz = j by rw [Nat.mul_comm]; exact Nat.div_add_mod j sz] at h1
    rw [h1]
    simp [madeCells, hj, hs, hm]
  · rw [List.getElem?_eq_none (by simp [madeCells]; omega), List.getElem?_eq_none (by rw [hlen]; omega)]

theorem wpList_make_list {P : Program} {ops : Array Oper} {rest : List Oper} {o : Oper} {a : Act} {Q : Exit → Act → World → Prop} {w0 : World}
    (hsz : ∀ x, (enc x).length = sz) (lo c : Operand) (t : TypeId) (i : TypeInfo) (z : Value) (d : α) (n : Nat) (hg : o.guard = none) (hop : o.op = Op.makeSlice t lo c)
    (h1 : P.underlying t = some (.slice e)) (h2 : P.info? e = some i) (h3 : i.zero = some z) (h4 : i.size = sz) (hzs : z.cells.size = sz) (hz : enc d = z.cells.toList) (hby : i.bytes ≤ 100)
    (hl : a.eval lo = .int .i64 n) (hc : a.eval c = .int .i64 n) (hn : n ≤ 1000000000) (hbel : Below base w0 w) (hB : base ≤ w.heap.size)
    (hK : ∀ w', Own sz enc e w' base (.slice (some ⟨w.heap.size, 0, none⟩) n n) (List.replicate n d) → Below base w0 w' → Below w.heap.size w w' → w.heap.size < w'.heap.size → wpList P ops Q rest (a.put o.dst (.slice (some ⟨w.heap.size, 0, none⟩) n n)) w') :
    wpList P ops Q (o :: rest) a w := by
  refine wpList_make_full w hg lo c t hop base e i z sz h1 h2 h3 h4 .i64 .i64 n n n hl hc rfl rfl ?_ (by unfold maxLen; omega) hB ?_
  · have := Nat.mul_le_mul hby hn; omega
  · intro w' hr hgr
    have hlt : w.heap.size < w'.heap.size := by
      obtain ⟨_, hh⟩ := hr
      rcases hh with ⟨h, _⟩ | ⟨g, cap, cur, h, _, hg, _⟩
      · cases h
      · cases h; exact (Array.getElem?_eq_some_iff.1 hg).1
    have hb2 : Below w.heap.size w w' := (Below.refl _ _).grown hgr (Nat.le_refl _) (fun k h => by cases h)
    refine hK w' ⟨⟨_, n, by rw [List.length_replicate]⟩, ?_⟩ (hbel.grown hgr hB fun k h => by cases h) hb2 hlt
    rw [List.length_replicate, ← madeCells_list hsz z d hz n hzs]; exact hr
end

/-- A region that draws: still operations first, in the order of the text; then a tail that is a chain. -/
theorem still_tail {P : Program} {id : Nat} {Q : Exit → Act → World → Prop} {a : Act} {w : World} {l : List Oper} (n : Nat) (hm : P.follows .mixedOrders = true) (hB : Region.lexTailB .any l.toArray n = true)
    (h : wpStill P l.toArray w.drew (fun a' => wpList P l.toArray Q (l.drop n) a' w.drew) (l.take n) a) : (Code.region id l.toArray true).wp P Q a w :=
  wp_region_still_tail n hm hB h

/-- w' is w but for the blocks of S and new ones. -/
structure KeptBut (S : Nat → Prop) (w w' : World) : Prop where
  os : w'.os = w.os
  tape : w'.tape = w.tape
  output : w'.output = w.output
  size : w.heap.size ≤ w'.heap.size
  block : ∀ k, k < w.heap.size → ¬ S k → w'.heap[k]? = w.heap[k]?
section
variable {S T : Nat → Prop} {w w' w'' : World}
theorem KeptBut.refl (S : Nat → Prop) (w : World) : KeptBut S w w := ⟨rfl, rfl, rfl, Nat.le_refl _, fun _ _ _ => rfl⟩
theorem KeptBut.trans (h : KeptBut S w w') (k : KeptBut S w' w'') : KeptBut S w w'' :=
  ⟨k.os.trans h.os, k.tape.trans h.tape, k.output.trans h.output, Nat.le_trans h.size k.size, fun i hi hs => (k.block i (by have := h.size; omega) hs).trans (h.block i hi hs)⟩
theorem KeptBut.mono (h : KeptBut S w w') (hs : ∀ k, S k → T k) : KeptBut T w w' := ⟨h.os, h.tape, h.output, h.size, fun k hk ht => h.block k hk fun h' => ht (hs k h')⟩
theorem KeptBut.of_below {B : Nat} (h : Below B w w') (hB : w.heap.size ≤ B) : KeptBut S w w' := ⟨h.os, h.tape, h.output, h.size, fun k hk _ => h.block k (by omega)⟩
theorem KeptBut.setCell (h : KeptBut S w w') {p : Addr} (hp : S p.block) (u : Value) : KeptBut S w (w'.setCell p u) :=
  h.trans ⟨rfl, rfl, rfl, by simp [World.setCell], fun k _ hs => Below.heap_setCell _ _ _ _ (fun e => hs (by rw [e]; exact hp))⟩
theorem KeptBut.setNew (h : KeptBut S w w') {p : Addr} (hp : w.heap.size ≤ p.block) (u : Value) : KeptBut S w (w'.setCell p u) :=
  ⟨h.os, h.tape, h.output, by simpa [World.setCell] using h.size, fun k hk hs => (Below.heap_setCell w' p u k (by omega)).trans (h.block k hk hs)⟩
theorem KeptBut.alloc (h : KeptBut S w w') (o : Obj) : KeptBut S w (w'.alloc o) :=
  h.trans ⟨rfl, rfl, rfl, by simp, fun k hk _ => Below.heap_alloc _ _ _ hk⟩
theorem KeptBut.drewN (h : KeptBut S w w') (n : Nat) : KeptBut S w (w'.drewN n) := h.trans ⟨rfl, rfl, rfl, Nat.le_refl _, fun _ _ _ => rfl⟩
theorem KeptBut.drew (h : KeptBut S w w') : KeptBut S w w'.drew := h.trans ⟨rfl, rfl, rfl, Nat.le_refl _, fun _ _ _ => rfl⟩
theorem KeptBut.below (h : KeptBut S w w') {B : Nat} (hS : ∀ k, S k → B ≤ k) (hB : B ≤ w.heap.size) : Below B w w' := ⟨h.os, h.tape, h.output, h.size, fun k hk => h.block k (by omega) fun h' => by have := hS k h'; omega⟩
theorem KeptBut.of_grown {row : Option Nat} (hg : w.grownBy w' row) (hr : ∀ k, row = some k → S k) : KeptBut S w w' :=
  ⟨hg.os, hg.tape, hg.output, hg.size, fun k hk hs => hg.block k hk fun e => hs (hr k e.symm)⟩
theorem KeptBut.grown {row : Option Nat} (h : KeptBut S w w') (hg : w'.grownBy w'' row) (hr : ∀ k, row = some k → w.heap.size ≤ k) : KeptBut S w w'' :=
  ⟨hg.os.trans h.os, hg.tape.trans h.tape, hg.output.trans h.output, Nat.le_trans h.size hg.size, fun k hk hs => (hg.block k (by have := h.size; omega) fun e => by have := hr k e.symm; omega).trans (h.block k hk hs)⟩
theorem KeptBut.cell (h : KeptBut S w w') {a : Addr} {v : Value} (hc : w.cell? a = some v) (hs : ¬ S a.block) : w'.cell? a = some v := by
  rw [World.cell?_of_block (h.block a.block (World.block_lt_of_cell? w a hc) hs)]; exact hc
theorem KeptBut.own {α : Type} {sz : Nat} {enc : α → List Value} {e : TypeId} {base : Nat} {v : Value} {l : List α} (h : KeptBut S w w') (ho : Own sz enc e w base v l) (hs : ∀ k, v.ownBlock = some k → ¬ S k) : Own sz enc e w' base v l := by
  obtain ⟨h1, hl, hh⟩ := ho
  refine ⟨h1, hl, ?_⟩
  rcases hh with hh | ⟨g, cap, cur, rfl, hbg, hg, r⟩
  · exact .inl hh
  · exact .inr ⟨g, cap, cur, rfl, hbg, by rw [h.block g (Array.getElem?_eq_some_iff.1 hg).1 (hs g rfl)]; exact hg, r⟩
end

/-- Block b holds the cells cs; none of it is frozen. -/
def Bk (w : World) (b : Nat) (cs : List Value) : Prop := b < w.heap.size ∧ (∀ (j : Nat) v, cs[j]? = some v → w.cell? ⟨b, j, none⟩ = some v) ∧ ∀ j, w.frozen? ⟨b, j, none⟩ = false
theorem Bk.lt {w : World} {b : Nat} {cs : List Value} (h : Bk w b cs) : b < w.heap.size := h.1
theorem Bk.get {w : World} {b : Nat} {cs : List Value} (h : Bk w b cs) {j : Nat} {v : Value} (hj : cs[j]? = some v) : w.cell? ⟨b, j, none⟩ = some v := h.2.1 j v hj
theorem Bk.fz {w : World} {b : Nat} {cs : List Value} (h : Bk w b cs) (j : Nat) : w.frozen? ⟨b, j, none⟩ = false := h.2.2 j
theorem Bk.kept {S : Nat → Prop} {w w' : World} {b : Nat} {cs : List Value} (h : Bk w b cs) (k : KeptBut S w w') (hs : ¬ S b) : Bk w' b cs :=
  ⟨Nat.lt_of_lt_of_le h.1 k.size, fun j v hj => k.cell (h.2.1 j v hj) hs, fun j => by rw [World.frozen?_of_block (k.block b h.1 hs)]; exact h.2.2 j⟩
theorem Bk.later {w w' : World} {b : Nat} {cs : List Value} (h : Bk w b cs) (k : Below w.heap.size w w') : Bk w' b cs := h.kept (KeptBut.of_below (S := fun _ => False) k (Nat.le_refl _)) id
theorem Bk.alloc {w : World} {b : Nat} {cs : List Value} (h : Bk w b cs) (o : Obj) : Bk (w.alloc o) b cs := h.later ((Below.refl _ _).alloc (Nat.le_refl _) _)
theorem Bk.new {w : World} {cs : Array Value} {t : TypeId} {l : List Value} (hl : cs.toList = l) : Bk (w.alloc (.cells cs t)) w.heap.size l := by
  have e := heap_new w (.cells cs t)
  refine ⟨by simp, fun j v hj => ?_, fun j => ?_⟩
  · subst hl
    simp only [World.cell?]
    rw [e]
    simpa using hj
  · unfold World.frozen?
    rw [e]
    simp
theorem Bk.at {w w' : World} {b : Nat} {l : List Value} (h : Bk w b l) (e : w = w') : Bk w' b l := e ▸ h
theorem below_alloc {w w' : World} {B : Nat} (h : Below B w w') (hB : B ≤ w'.heap.size) (o : Obj) : Below B w (w'.alloc o) := h.alloc hB o

/-- the first one that is p; -1: none is -/
def firstI {α : Type} (p : α → Bool) (l : List α) : Int := match l.findIdx? p with
  | some i => i
  | none => -1
theorem firstI_some {α : Type} {p : α → Bool} {l : List α} {k : Nat} {x : α} (h : l[k]? = some x) (hp : p x = true) (hn : ∀ (i : Nat) y, i < k → l[i]? = some y → p y = false) : firstI p l = k := by
  unfold firstI
  have hlt := (List.getElem?_eq_some_iff.1 h).1
  have : l.findIdx? p = some k := by
    rw [List.findIdx?_eq_some_iff_getElem]
    refine ⟨hlt, by rw [(List.getElem?_eq_some_iff.1 h).2]; exact hp, fun j hj => ?_⟩
    have := hn j l[j] hj (List.getElem?_eq_getElem _)
    simp [this]
  rw [this]
theorem firstI_none {α : Type} {p : α → Bool} {l : List α} (hn : ∀ (i : Nat) y, i < l.length → l[i]? = some y → p y = false) : firstI p l = -1 := by
  unfold firstI
  have : l.findIdx? p = none := by
    rw [List.findIdx?_eq_none_iff]
    intro x hx
    obtain ⟨i, hi⟩ := List.getElem?_of_mem hx
    exact hn i x (List.getElem?_eq_some_iff.1 hi).1 hi
  rw [this]
theorem firstI_any {α : Type} (p : α → Bool) (l : List α) : decide (0 ≤ firstI p l) = l.any p := by
  unfold firstI
  cases h : l.findIdx? p with
  | none =>
    rw [List.findIdx?_eq_none_iff] at h
    simp only [show ¬ (0 : Int) ≤ -1 by decide, decide_false]
    symm
    rw [List.any_eq_false]
    exact fun x hx => by simp [h x hx]
  | some i =>
    rw [List.findIdx?_eq_some_iff_getElem] at h
    obtain ⟨hlt, hp, _⟩ := h
    have : l.any p = true := List.any_eq_true.2 ⟨l[i], List.getElem_mem _, hp⟩
    rw [this]
    simp
theorem firstI_lt {α : Type} (p : α → Bool) (l : List α) : -1 ≤ firstI p l ∧ firstI p l < l.length ∨ l = [] ∧ firstI p l = -1 := by
  unfold firstI
  cases h : l.findIdx? p with
  | none =>
    cases l
    · right; exact ⟨rfl, rfl⟩
    · left; simp; omega
  | some i =>
    rw [List.findIdx?_eq_some_iff_getElem] at h
    obtain ⟨hlt, _, _⟩ := h
    left
    simp; omega

/-- append of one element to a slice of the call's own, as one step of a region that draws -/
theorem step_append_one {α : Type} {sz : Nat} {enc : α → List Value} {e : TypeId} {w : World} {base : Nat} {v : Value} {l : List α} {P : Program} {ops : Array Oper} {o : Oper} {a : Act} {K : Act → World → Prop} {Q : Exit → Act → World → Prop} {E : Prop} {w0 : World} {bytes : Nat} (hsz : ∀ x, (enc x).length = sz) (s x : Operand) (t : TypeId) (i : TypeInfo) (z : Value) (hgd : o.guard = none)
    (ho : o.op = .call { callee := .builtin .append, args := #[s, x], argTypes := #[t, t] })
    (ht : P.underlying t = some (.slice e)) (hi : P.info? e = some i) (hz : i.zero = some z) (hsize : i.size = sz) (hby : i.bytes = bytes) (hzs : z.cells.size = sz) (hpos : 0 < sz) (hb100 : bytes ≤ 100)
    (hown : Own sz enc e w base v l) (hbel : Below base w0 w) (hB : base ≤ w.heap.size) (hlen : l.length + 1 ≤ 1000000000)
    (hs : a.eval s = v) (y : α) (ad : Addr) (c : Nat) (hx : a.eval x = .slice (some ad) 1 c)
    (hnews : ∀ (j : Nat) (u : Value), (enc y)[j]? = some u → w.cell? (ad.add j) = some u) (h1 : ∀ u ∈ enc y, u.oneCell' = true)
    (h : ∀ v' w', Own sz enc e w' base v' (l ++ [y]) → Below base w0 w' → w.grownBy w' v.ownBlock → (v'.ownBlock = v.ownBlock ∨ v'.ownBlock = some w.heap.size) → K (a.put o.dst v') w') :
    if Region.wanted o (yielded ops a.tmps) = true then Oper.wp P o a w K Q else E := by
  have hw : Region.wanted o (yielded ops a.tmps) = true := by simp [Region.wanted, hgd]
  rw [if_pos hw]
  have hb : (l.length + 1) * bytes ≤ 1000000000 * 100 := Nat.mul_le_mul hlen hb100
  obtain ⟨v', w', hr, h2, h3, _, h5⟩ := run_append_own_at (P := P) w base t o.type e i z sz bytes ht hi hz hsize hby hzs hpos v l.length _ hown.2 ad 1 c (enc y) (by rw [hsz]; omega) hnews h1 (by unfold maxLen; omega) (by omega) hB
  unfold Oper.wp execOp
  simp only [ho, resolve, invoke, builtin, Sem.run_bind, Sem.run_pure, Result.andThen_ok, List.map_toArray, List.map_cons, List.map_nil, hs, hx, hr]
  exact h v' w' (Own.grown (l2 := [y]) (by simpa using h2)) (hown.below hbel h3 hB) h3 h5
theorem Bk.set {w : World} {b k : Nat} {cs : List Value} {u : Value} (h : Bk w b cs) (v : Value) (hk : cs[k]? = some u) : Bk (w.setCell ⟨b, k, none⟩ v) b (cs.set k v) := by
  refine ⟨by simpa [World.setCell] using h.1, fun j x hj => ?_, fun j => by rw [World.frozen?_setCell]; exact h.2.2 j⟩
  by_cases e : k = j
  · subst e
    rw [List.getElem?_set_self (List.getElem?_eq_some_iff.1 hk).1] at hj
    cases hj
    exact cellSetS (h.get hk)
  · rw [List.getElem?_set_ne e] at hj
    exact cellSetO (h.get hj) (fun e' => e (by cases e'; rfl))
theorem Bk.setO {w : World} {b : Nat} {cs : List Value} (h : Bk w b cs) {p : Addr} (hp : p.block ≠ b) (v : Value) : Bk (w.setCell p v) b cs :=
  h.kept (S := fun q => q = p.block) ((KeptBut.refl (fun q => q = p.block) w).setCell rfl v) (fun e => hp e.symm)
end Go.Proofs.YtgeedjlbajmdkaaGreatDoor
namespace Go.Proofs.YtgeedjlbajmdkaaGreatDoor
open Go.RowKit

def kindFault (k : Int) : Int := if k < 1 ∨ 4 < k then 3 else 0
theorem foldCheck_any (k : Int) (w : World) :
    Calls Tryz.prog 77 #[.int .i64 k] w fun e w' => e = .returned (errV (kindFault k)) ∧ w = w' := by
  by_cases h1 : k < 1
  · have hr : kindFault k = 3 := by unfold kindFault; rw [if_pos (by omega)]
    rw [hr]
    have e1 : decide (k < 1) = true := by simpa using h1
    go_enter Tryz.func77, Tryz.ntmps77
    go_wp2
    go_ret
    exact ⟨rfl, rfl⟩
  · have e1 : decide (k < 1) = false := by simpa using h1
    by_cases h2 : 4 < k
    · have hr : kindFault k = 3 := by unfold kindFault; rw [if_pos (by omega)]
      rw [hr]
      go_enter Tryz.func77, Tryz.ntmps77
      go_wp2
      go_ret
      exact ⟨rfl, rfl⟩
    · have hr : kindFault k = 0 := by unfold kindFault; rw [if_neg (by omega)]
      rw [hr]
      go_enter Tryz.func77, Tryz.ntmps77
      go_wp2
      go_ret
      exact ⟨rfl, rfl⟩

def first (k v : Int) : Int := if k = 4 then 1 else v
theorem First_any (k v : Int) (w : World) :
    Calls Tryz.prog 100 #[.int .i64 k, .int .i64 v] w fun e w' => e = .returned (.int .i64 (first k v)) ∧ w = w' := by
  by_cases h : k = 4
  · have hr : first k v = 1 := if_pos h
    have e1 : (k == 4) = true := by simpa using h
    rw [hr]
    clear hr h
    go_enter Tryz.func100, Tryz.ntmps100
    go_wp2
    go_ret
    exact ⟨rfl, rfl⟩
  · have hr : first k v = v := if_neg h
    have e1 : (k == 4) = false := by simpa using h
    rw [hr]
    clear hr h
    go_enter Tryz.func100, Tryz.ntmps100
    go_wp2
    go_ret
    exact ⟨rfl, rfl⟩

def two (k a b : Int) : Int := if k = 2 then min a b else if k = 3 then max a b else wrap64 (a + b)
theorem two_any (k a b : Int) (w : World) :
    Calls Tryz.prog 79 #[.int .i64 k, .int .i64 a, .int .i64 b] w fun e w' => e = .returned (.int .i64 (two k a b)) ∧ w = w' := by
  by_cases h : k = 2
  · have hr : two k a b = min a b := if_pos h
    have e1 : (k == 2) = true := by simpa using h
    rw [hr]
    clear hr h
    go_enter Tryz.func79, Tryz.ntmps79
    go_wp2
    all_goals (go_ret; exact ⟨ret_i (by omega), rfl⟩)
  · by_cases h3 : k = 3
    · have hr : two k a b = max a b := by unfold two; rw [if_neg h, if_pos h3]
      have e1 : (k == 2) = false := by simpa using h
      have e2 : (k == 3) = true := by simpa using h3
      rw [hr]
      clear hr h h3
      go_enter Tryz.func79, Tryz.ntmps79
      go_wp2
      all_goals (go_ret; exact ⟨ret_i (by omega), rfl⟩)
    · have hr : two k a b = wrap64 (a + b) := by unfold two; rw [if_neg h, if_neg h3]
      have e1 : (k == 2) = false := by simpa using h
      have e2 : (k == 3) = false := by simpa using h3
      rw [hr]
      clear hr h h3
      go_enter Tryz.func79, Tryz.ntmps79
      go_wp2
      go_ret
      exact ⟨rfl, rfl⟩

/-- one pair more -/
def gstep (k : Int) (out : List Pr) (p : Pr) : List Pr := match out.getLast? with
  | some q => if q.1 = p.1 then out.dropLast ++ [(q.1, two k q.2 p.2)] else out ++ [p]
  | none => [p]
def groups (k : Int) (l : List Pr) : List Pr := l.foldl (gstep k) []
theorem groups_take_succ {k : Int} {l : List Pr} {i : Nat} {p : Pr} (h : l[i]? = some p) : groups k (l.take (i + 1)) = gstep k (groups k (l.take i)) p := by
  have hlt : i < l.length := get_lt h
  have hx : l[i] = p := (List.getElem?_eq_some_iff.1 h).2
  unfold groups
  rw [List.take_succ_eq_append_getElem hlt, List.foldl_append, hx]; rfl
theorem gstep_length (k : Int) (out : List Pr) (p : Pr) : (gstep k out p).length ≤ out.length + 1 := by
  unfold gstep
  split
  · rename_i q hq
    split
    · simp
    · simp
  · simp
theorem groups_length (k : Int) (l : List Pr) : (groups k l).length ≤ l.length := by
  have key : ∀ (l : List Pr) (o : List Pr), (l.foldl (gstep k) o).length ≤ o.length + l.length := by
    intro l
    induction l with
    | nil => intro o; simp
    | cons a l ih => intro o; have h1 := ih (gstep k o a); have h2 := gstep_length k o a; simp only [List.foldl_cons, List.length_cons]; omega
  have := key l []
  simpa [groups] using this


set_option maxRecDepth 100000 in
set_option maxHeartbeats 1000000 in
theorem Groups_any (k : Int) (ao : Option Addr) (cap : Nat) (l : List Pr) (w : World) (hl : l.length ≤ 1000000000) (hs : Sl 2 encP w ao l) :
    Calls Tryz.prog 69 #[.int .i64 k, .slice ao l.length cap] w fun e w' => ∃ v, e = .returned v ∧ Own 2 encP 101 w' w.heap.size v (groups k l) ∧ Below w.heap.size w w' := by
  obtain ⟨i0, hi, hz0, hz1, hz2⟩ := info_parts infoPair
  go_enter Tryz.func69, Tryz.ntmps69
  go_wp2
  go_loopw [5, 11] (fun v i wr => ∃ n : Nat, n ≤ l.length ∧ i = .int .i64 n ∧ Own 2 encP 101 wr w.heap.size v (groups k (l.take n)) ∧ Below w.heap.size w wr) (fun _ i _ => l.length - (intOf i).toNat)
  case atStart => exact ⟨0, by omega, rfl, Own.nil, Below.refl _ _⟩
  case round =>
    obtain ⟨n, hn, rfl, hown, hnx⟩ := hrel
    by_cases hlt : n < l.length
    · obtain ⟨b, off, x, y, rfl, hbw, hlk, c0, c1⟩ := (hs.later hnx (Nat.le_refl _)).pair hlt
      have Hst : Hid (groups k (l.take (n + 1)) = gstep k (groups k (l.take n)) (x, y)) := groups_take_succ hlk
      have hgl : (groups k (l.take n)).length ≤ n := by have := groups_length k (l.take n); rw [List.length_take] at this; omega
      clear hlk
      generalize groups k (l.take n) = out at *
      by_cases h0 : out.length = 0
      · obtain rfl : out = [] := List.eq_nil_of_length_eq_zero h0
        obtain ⟨⟨ao', cp, rfl⟩, hrow⟩ := hown
        have hown : Own 2 encP 101 wr w.heap.size (.slice ao' ([] : List Pr).length cp) ([] : List Pr) := ⟨⟨ao', cp, rfl⟩, hrow⟩
        clear hrow
        go_wp2
        go_quiet (fail)
        go_wp2_with (at_builtin; refine wpList_append_one encP_len _ _ 53 i0 _ rfl rfl Tryz.underlying53 hi hz0 hz1 hz2 rfl (by decide) (by decide) ((hown.alloc _).alloc _) (below_drewN (hnx.alloc hnx.size _) _ |>.alloc ?c0 _) ?c1 ?c2 rfl (x, y) ⟨wr.heap.size + 1, 0, none⟩ 1 rfl (news_at ?c3 rfl) ?c4 ?_)
        case c0 => have := hnx.size; simp; omega
        case c1 => have := hnx.size; simp; omega
        case c2 => simp
        case c3 => simp
        case c4 => simp [encP, Value.oneCell']
        intro v' w1 hown1 hb1 _ _
        go_wp2
        go_roundw
        case rel => exact ⟨n+1, by omega, by go_num, by rw [Hst.out]; exact hown1, hb1⟩
        case measure => simp [intOf]; omega
      · obtain ⟨g, cp, rfl, hgb, hgw, hgc, hgf⟩ := hown.addr (by omega)
        obtain ⟨m, hm⟩ : ∃ m, out.length = m + 1 := ⟨out.length - 1, by omega⟩
        obtain ⟨⟨qk, qv⟩, hq⟩ : ∃ q : Pr, out[m]? = some q := ⟨out[m], by simp [hm]⟩
        have hsl := (hown.sl encP_len).pair (show m < out.length by omega)
        obtain ⟨_, _, _, _, e1, _, e2, d0, d1⟩ := hsl
        cases e1
        rw [hq] at e2; cases e2
        simp only [Nat.zero_add] at d0 d1
        have hgl2 : out.getLast? = some (qk, qv) := by rw [List.getLast?_eq_getElem?, hm]; exact hq
        have dl : out.dropLast ++ [(qk, two k qv y)] = out.set m (qk, two k qv y) := by
          rw [List.dropLast_eq_take, hm, List.set_eq_take_append_cons_drop, if_pos (by omega), List.drop_eq_nil_of_le (by omega)]
          simp
        have hown2 : Own 2 encP 101 wr w.heap.size (.slice (some ⟨g, 0, none⟩) (m + 1) cp) out := by rw [← hm]; exact hown
        rw [hm]
        have f1 : (0 : Int) ≤ (m : Int) ∧ (m : Int) < (m : Int) + 1 ∧ (m : Int) ≤ 1000000000 := by omega
        obtain ⟨f1, f2, f3⟩ := f1
        have fz := hgf (m * 2 + 1)
        have Hm := hide hm; clear hm
        by_cases hk : qk = x
        · subst hk
          have hgs : Hid (gstep k out (qk, y) = out.set m (qk, two k qv y)) := by
            show _ = _
            unfold gstep; rw [hgl2]; simp [dl]
          clear dl hgl2
          go_wp2
          go_quiet (fail)
          go_wp2
          refine still_tail 13 (by kernel_rfl) (by kernel_rfl) ?_
          simp only [List.take_succ_cons, List.take_zero, List.drop_succ_cons, List.drop_zero]
          repeat still_step
          still_call ((two_any _ _ _ _).mono fun e w'' h => ⟨h.1, h.2.symm⟩)
          repeat still_step
          refine wpStill_nil ?_
          go_wp2
          go_roundw
          case rel =>
            refine ⟨n+1, by omega, by go_num, ?_, (below_drewN (hnx.alloc hnx.size _) _).setCell hgb _⟩
            rw [Hst.out, hgs.out, ← Hm.out]
            exact Own.set (x := (qk, qv)) encP_len ((hown.alloc _).drewN _) hq (by decide) rfl
          case measure => simp [intOf]; omega
        · have hgs : Hid (gstep k out (x, y) = out ++ [(x, y)]) := by
            show _ = _
            unfold gstep; rw [hgl2]; simp [hk]
          clear dl hgl2
          have hkk := bneq hk
          go_wp2
          go_quiet (fail)
          go_wp2_with (at_builtin; refine wpList_append_one encP_len _ _ 53 i0 _ rfl rfl Tryz.underlying53 hi hz0 hz1 hz2 rfl (by decide) (by decide) ((hown2.alloc _).alloc _) (below_drewN (hnx.alloc hnx.size _) _ |>.alloc ?c0 _) ?c1 ?c2 rfl (x, y) ⟨wr.heap.size + 1, 0, none⟩ 1 rfl (news_at ?c3 rfl) ?c4 ?_)
          case c0 => have := hnx.size; simp; omega
          case c1 => have := hnx.size; simp; omega
          case c2 => omega
          case c3 => simp
          case c4 => simp [encP, Value.oneCell']
          intro v' w1 hown1 hb1 _ _
          go_wp2
          go_roundw
          case rel => exact ⟨n+1, by omega, by go_num, by rw [Hst.out, hgs.out]; exact hown1, hb1⟩
          case measure => simp [intOf]; omega
    · go_wp2
      go_ret
      rw [List.take_of_length_le (by omega)] at hown
      exact ⟨_, rfl, hown, hnx⟩
end Go.Proofs.YtgeedjlbajmdkaaGreatDoor
/- A made slice of slices of pairs, each of which grows: the rows of a job's slices. -/
namespace Go.Proofs.YtgeedjlbajmdkaaGreatDoor
open Go.RowKit

/-- the rows that lie in block ob -/
structure Rws (w : World) (base ob : Nat) (vs : List Value) (ls : List (List Pr)) : Prop where
  bk : Bk w ob vs
  len : vs.length = ls.length
  lo : base ≤ ob
  own : ∀ (i : Nat) v l, vs[i]? = some v → ls[i]? = some l → Own 2 encP 101 w base v l
  ne : ∀ (i : Nat) v, vs[i]? = some v → v.ownBlock ≠ some ob
  apart : ∀ (i j : Nat) u v q, i ≠ j → vs[i]? = some u → vs[j]? = some v → u.ownBlock = some q → v.ownBlock ≠ some q
theorem Rws.later {w w' : World} {base ob : Nat} {vs : List Value} {ls : List (List Pr)} (h : Rws w base ob vs ls) (hb : Below w.heap.size w w') : Rws w' base ob vs ls :=
  ⟨h.bk.later hb, h.len, h.lo, fun i v l a b => (h.own i v l a b).later hb, h.ne, h.apart⟩
theorem Rws.row {w : World} {base ob : Nat} {vs : List Value} {ls : List (List Pr)} (h : Rws w base ob vs ls) {k : Nat} (hk : k < ls.length) : ∃ v l, vs[k]? = some v ∧ ls[k]? = some l ∧ Own 2 encP 101 w base v l ∧ w.cell? ⟨ob, k, none⟩ = some v := by
  have hkv : k < vs.length := by have h1 := h.len; omega
  have hv : vs[k]? = some vs[k] := List.getElem?_eq_getElem hkv
  have hl : ls[k]? = some ls[k] := List.getElem?_eq_getElem hk
  exact ⟨_, _, hv, hl, h.own k _ _ hv hl, h.bk.get hv⟩
/-- one row more: a new value of row k -/
theorem Rws.put {W A w1 : World} {base ob k : Nat} {vs : List Value} {ls : List (List Pr)} {v v' : Value} {l l' : List Pr} (h : Rws W base ob vs ls) (hv : vs[k]? = some v) (hA : Below W.heap.size W A) (hs : W.heap.size ≤ A.heap.size)
    (ho : Own 2 encP 101 w1 base v' l') (hg : A.grownBy w1 v.ownBlock) (hat : ∀ q, v'.ownBlock = some q → v.ownBlock = some q ∨ W.heap.size ≤ q) :
    Rws (w1.setCell ⟨ob, k, none⟩ v') base ob (vs.set k v') (ls.set k l') ∧ w1.frozen? ⟨ob, k, none⟩ = false ∧ w1.cell? ⟨ob, k, none⟩ = some v := by
  have hk1 : KeptBut (fun q => v.ownBlock = some q) A w1 := KeptBut.of_grown hg fun q e => e
  have hbA := h.bk.later hA
  have hb1 := hbA.kept hk1 (h.ne k v hv)
  have hob := h.bk.lt
  have hkl : k < vs.length := (List.getElem?_eq_some_iff.1 hv).1
  have hv'ob : v'.ownBlock ≠ some ob := fun e => by
    rcases hat _ e with e2 | hm
    · exact h.ne k v hv e2
    · omega
  have hlt : ∀ (i : Nat) u q, vs[i]? = some u → u.ownBlock = some q → q < W.heap.size := fun i u q hu hq => by
    have hil : i < ls.length := by have h1 := (List.getElem?_eq_some_iff.1 hu).1; have h2 := h.len; omega
    exact ((h.own i u _ hu (List.getElem?_eq_getElem hil)).lt q hq).2
  refine ⟨⟨hb1.set (k := k) (u := v) v' hv, by rw [List.length_set, List.length_set]; exact h.len, h.lo, fun i u m hu hm => ?_, fun i u hu => ?_, fun i j u x q hij hu hx hq => ?_⟩, hb1.fz k, hb1.get hv⟩
  · by_cases e : i = k
    · subst e
      rw [List.getElem?_set_self hkl] at hu
      rw [List.getElem?_set_self (by have := h.len; omega)] at hm
      cases hu; cases hm
      exact ho.setOther hv'ob _
    · rw [List.getElem?_set_ne (fun e2 => e e2.symm)] at hu hm
      have h1 := (h.own i u m hu hm).later hA
      have h2 := hk1.own h1 fun q hq e2 => h.apart i k u v q e hu hv hq e2
      exact h2.setOther (h.ne i u hu) _
  · by_cases e : i = k
    · subst e
      rw [List.getElem?_set_self hkl] at hu
      cases hu
      exact hv'ob
    · rw [List.getElem?_set_ne (fun e2 => e e2.symm)] at hu
      exact h.ne i u hu
  · by_cases ei : i = k
    · subst ei
      rw [List.getElem?_set_self hkl] at hu
      cases hu
      rw [List.getElem?_set_ne hij] at hx
      intro hxq
      rcases hat q hq with e2 | hm
      · exact h.apart i j v x q hij hv hx e2 hxq
      · have := hlt j x _ hx hxq
        omega
    · rw [List.getElem?_set_ne (fun e2 => ei e2.symm)] at hu
      by_cases ej : j = k
      · subst ej
        rw [List.getElem?_set_self hkl] at hx
        cases hx
        intro hxq
        rcases hat q hxq with e2 | hm
        · exact h.apart i j u v q hij hu hv hq e2
        · have := hlt i u _ hu hq
          omega
      · rw [List.getElem?_set_ne (fun e2 => ej e2.symm)] at hx
        exact h.apart i j u x q hij hu hx hq
/-- rows that are made: all empty -/
theorem Rws.made {w : World} {base ob n : Nat} (hb : Bk w ob (List.replicate n (.slice none 0 0))) (hlo : base ≤ ob) : Rws w base ob (List.replicate n (.slice none 0 0)) (List.replicate n []) := by
  have hh : ∀ (i : Nat) v, (List.replicate n (Value.slice none 0 0))[i]? = some v → v = .slice none 0 0 := fun i v hv => by
    have := List.mem_of_getElem? hv
    exact (List.mem_replicate.1 this).2
  refine ⟨hb, by simp, hlo, fun i v l hv hl => ?_, fun i v hv => ?_, fun i j u v q _ hu _ hq => ?_⟩
  · rw [hh i v hv, (List.mem_replicate.1 (List.mem_of_getElem? hl)).2]
    exact Own.nil
  · rw [hh i v hv]; simp [Value.ownBlock]
  · rw [hh i u hu] at hq; simp [Value.ownBlock] at hq
end Go.Proofs.YtgeedjlbajmdkaaGreatDoor
