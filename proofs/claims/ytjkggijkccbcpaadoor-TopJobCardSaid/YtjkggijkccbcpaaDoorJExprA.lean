/- Expressions that a reader makes: where they lie; the search of a kind's name in the map of names. -/
import Derived.Test.YtjkggijkccbcpaaDoorJQuoted
import Derived.Test.YtjkggijkccbcpaaDoorJobOpen
import Derived.Test.YtjkggijkccbcpaaDoorApp2
import Derived.Test.YtjkggijkccbcpaaDoorJText
set_option linter.unusedSimpArgs false
set_option linter.unusedVariables false
namespace Go.Proofs.YtjkggijkccbcpaaDoor
open Go.RowKit

/-- a tree that lies in these places, its lists in blocks of S -/
def ExS (S : Nat → Prop) (w : World) : Nat → ExprV → List Value → Prop
  | 0, _, _ => False
  | d + 1, .mk k n s a, cs => ∃ ao cap, cs = encX k n s ao a.length cap ∧ (-9223372036854775808 ≤ k ∧ k ≤ 9223372036854775807) ∧ (-9223372036854775808 ≤ n ∧ n ≤ 9223372036854775807) ∧ s.size ≤ maxLen ∧ a.length ≤ maxLen ∧ KidsAt (ExS S w d) w ao a ∧ ∀ b o, ao = some ⟨b, o, none⟩ → S b ∧ b < w.heap.size
theorem ExS.at {S : Nat → Prop} {w : World} : ∀ {d : Nat} {e : ExprV} {cs : List Value}, ExS S w d e cs → ExAt w d e cs
  | 0, _, _, h => h
  | d + 1, .mk k n s a, cs, h => by
    obtain ⟨ao, cap, e, h1, h2, h3, h4, h5, _⟩ := h
    refine ⟨ao, cap, e, h1, h2, h3, h4, fun i x hi => ?_⟩
    obtain ⟨b, off, q, e1, hlt, hc, hq⟩ := h5 i x hi
    exact ⟨b, off, q, e1, hlt, hc, hq.at⟩
theorem ExS.kept {S T : Nat → Prop} {w w' : World} (k : KeptBut T w w') (hs : ∀ q, S q → ¬ T q) : ∀ {d : Nat} {e : ExprV} {cs : List Value}, ExS S w d e cs → ExS S w' d e cs
  | 0, _, _, h => h
  | d + 1, .mk k0 n s a, cs, h => by
    obtain ⟨ao, cap, e, h1, h2, h3, h4, h5, h6⟩ := h
    refine ⟨ao, cap, e, h1, h2, h3, h4, fun i x hi => ?_, fun b o e1 => ⟨(h6 b o e1).1, Nat.lt_of_lt_of_le (h6 b o e1).2 k.size⟩⟩
    obtain ⟨b, off, q, e1, hlt, hc, hq⟩ := h5 i x hi
    have hb := h6 b off e1
    exact ⟨b, off, q, e1, by have := k.size; omega, fun j u hj => k.cell (hc j u hj) (hs b hb.1), hq.kept k hs⟩
theorem ExS.mono {S T : Nat → Prop} {w : World} (hs : ∀ q, S q → T q) : ∀ {d : Nat} {e : ExprV} {cs : List Value}, ExS S w d e cs → ExS T w d e cs
  | 0, _, _, h => h
  | d + 1, .mk k0 n s a, cs, h => by
    obtain ⟨ao, cap, e, h1, h2, h3, h4, h5, h6⟩ := h
    refine ⟨ao, cap, e, h1, h2, h3, h4, fun i x hi => ?_, fun b o e1 => ⟨hs _ (h6 b o e1).1, (h6 b o e1).2⟩⟩
    obtain ⟨b, off, q, e1, hlt, hc, hq⟩ := h5 i x hi
    exact ⟨b, off, q, e1, hlt, hc, hq.mono hs⟩
theorem ExS.later {S : Nat → Prop} {w w' : World} (hb : Below w.heap.size w w') {d : Nat} {e : ExprV} {cs : List Value} (h : ExS S w d e cs) : ExS S w' d e cs :=
  h.kept (KeptBut.of_below (S := fun _ => False) hb (Nat.le_refl _)) fun _ _ h => h
theorem ExR.cells_len (e : ExR) : e.cells.length = 4 := rfl
theorem one_exr : ∀ x : ExR, ∀ u ∈ x.cells, u.oneCell' = true := fun x u h => by
  simp only [ExR.cells, encX, List.mem_cons, List.not_mem_nil, or_false] at h
  rcases h with rfl | rfl | rfl | rfl <;> rfl
/-- a list of such, in a row of their own, is the list of kids -/
theorem kids_own {S : Nat → Prop} {w : World} {base d : Nat} {ao : Option Addr} {n cap : Nat} {l : List ExR} (ho : Own 4 ExR.cells 59 w base (.slice ao n cap) l) (hl : ∀ r ∈ l, ExS S w d r.tree r.cells) (hS : ∀ q, base ≤ q → S q) :
    KidsAt (ExS S w d) w ao (l.map ExR.tree) ∧ ∀ b o, ao = some ⟨b, o, none⟩ → S b ∧ b < w.heap.size := by
  refine ⟨fun i x hi => ?_, fun b o e => ?_⟩
  · rw [List.getElem?_map] at hi
    obtain ⟨r, hr, rfl⟩ := Option.map_eq_some_iff.1 hi
    have h0 : 0 < l.length := by have := (List.getElem?_eq_some_iff.1 hr).1; omega
    obtain ⟨g, cap', e, hb, hg, hc, _⟩ := ho.addr h0
    injection e with e1 e2 e3
    subst e1
    refine ⟨g, 0, r.cells, rfl, hg, fun j u hj => ?_, hl r (List.mem_of_getElem? hr)⟩
    have h1 := flat_get ExR.cells_len hr hj
    have hlt : i * 4 + j < l.length * 4 := by
      have h2 := (List.getElem?_eq_some_iff.1 hr).1
      have h3 := (List.getElem?_eq_some_iff.1 hj).1
      rw [ExR.cells_len] at h3
      omega
    rcases hc (i * 4 + j) with h2 | h2
    · rw [Nat.zero_add, h2]; exact h1
    · omega
  · subst e
    rcases ho.shape with ⟨h1, _⟩ | ⟨g, c, h1, _, h2, h3⟩
    · cases h1
    · injection h1 with h1
      cases h1
      exact ⟨hS _ h2, h3⟩
theorem infoExprR : (Tryd.prog.info? 59).map (fun i => (i.zero, i.size, i.bytes)) = some (some (.agg #[.int .i64 0, .int .i64 0, .string ⟨#[]⟩, .slice none 0 0]), 4, 56) := by kernel_rfl

/-- what has been found: k of those that are not left -/
def KindIs (w : List UInt8) (left : Lit → Bool) (k : Int) : Prop := k = if left (.int .i64 (kindN w)) = true ∨ kindN w = 0 then 0 else kindN w
theorem kindN_range (w : List UInt8) : 0 ≤ kindN w ∧ kindN w ≤ 10 := by
  unfold kindN
  repeat' split
  all_goals omega
theorem kindN_of {w : List UInt8} (h : kindN w ≠ 0) : nameK (kindN w) = w := by
  unfold kindN at h ⊢
  repeat' split
  all_goals first | (rename_i h1; exact h1.symm) | skip
  all_goals simp_all
theorem KindIs.start (w : List UInt8) : KindIs w (Maps.has namesD) 0 := by
  unfold KindIs
  have h := kindN_range w
  have h1 : kindN w = 0 ∨ kindN w = 1 ∨ kindN w = 2 ∨ kindN w = 3 ∨ kindN w = 4 ∨ kindN w = 5 ∨ kindN w = 6 ∨ kindN w = 7 ∨ kindN w = 8 ∨ kindN w = 9 ∨ kindN w = 10 := by omega
  rcases h1 with h1 | h1 | h1 | h1 | h1 | h1 | h1 | h1 | h1 | h1 | h1 <;> rw [h1]
  · simp
  all_goals exact (if_pos (.inl (by decide))).symm
theorem KindIs.done {w : List UInt8} {left : Lit → Bool} {k : Int} (h : KindIs w left k) (hl : ∀ kl, left kl = false) : k = kindN w := by
  unfold KindIs at h
  rw [hl] at h
  simp at h
  by_cases e : kindN w = 0
  · rw [h, if_pos e, e]
  · rw [h, if_neg e]
theorem names_key {x : Int} {c : List UInt8} (h : ∀ zd, DataW.atKey namesD (.int .i64 x) zd = .lit (.string c)) : (1 ≤ x ∧ x ≤ 10) ∧ c = nameK x := by
  by_cases hx : 1 ≤ x ∧ x ≤ 10
  · refine ⟨hx, ?_⟩
    have h1 : x = 1 ∨ x = 2 ∨ x = 3 ∨ x = 4 ∨ x = 5 ∨ x = 6 ∨ x = 7 ∨ x = 8 ∨ x = 9 ∨ x = 10 := by omega
    have h2 := h (.map [])
    rcases h1 with rfl | rfl | rfl | rfl | rfl | rfl | rfl | rfl | rfl | rfl <;> (injection h2 with h2; injection h2 with h2; exact h2.symm)
  · exfalso
    have e : ∀ zd, DataW.atKey namesD (.int .i64 x) zd = zd := fun zd => by
      have hf : namesL.find? (fun p => p.1.sameKey (.int .i64 x)) = none := by
        rw [List.find?_eq_none]
        intro p hp
        obtain ⟨k, hk, rfl⟩ := List.mem_map.1 hp
        simp only [List.mem_cons, List.not_mem_nil, or_false] at hk
        have : k ≠ x := by omega
        simp [Lit.sameKey, this]
      simp only [DataW.atKey, namesD, hf]
    have h3 := (e (.lit (.bool true))).symm.trans (h _)
    cases h3
theorem sameKey_int (a b : Int) : Lit.sameKey (.int .i64 a) (.int .i64 b) = decide (a = b) := by
  unfold Lit.sameKey
  by_cases h : a = b <;> simp [h]
theorem KindIs.hit {w : List UInt8} {left : Lit → Bool} {k x : Int} (_ : KindIs w left k) (hx : 1 ≤ x ∧ x ≤ 10) (hw : nameK x = w) : KindIs w (fun z => left z && !z.sameKey (.int .i64 x)) x := by
  have e : kindN w = x := by rw [← hw]; exact kindN_name hx
  unfold KindIs
  simp only [e, sameKey_int]
  simp
  try omega
theorem KindIs.miss {w : List UInt8} {left : Lit → Bool} {k x : Int} (h : KindIs w left k) (hx : 1 ≤ x ∧ x ≤ 10) (hw : nameK x ≠ w) : KindIs w (fun z => left z && !z.sameKey (.int .i64 x)) k := by
  unfold KindIs at *
  by_cases h0 : kindN w = 0
  · rw [h, if_pos (.inr h0), if_pos (.inr h0)]
  · have e : kindN w ≠ x := fun e => hw (by rw [← e]; exact kindN_of h0)
    rw [h]
    simp only [sameKey_int]
    simp [e]
theorem ranges_set {H : Type} {P : Program} {k : TypeId} {R : Value → Option (DataW H × List MemPlace)} {w : World} {b r n : Nat} {D : DataW H} {left : Lit → Bool} {cnt : Nat} (h : w.ranges P k R b r n D left cnt) {e j : Nat} (hb : b ≠ e) (hr : r ≠ e) (v : Value) : (w.setCell ⟨e, j, none⟩ v).ranges P k R b r n D left cnt := by
  have k := (KeptBut.refl (fun q => q = e) w).setCell (p := ⟨e, j, none⟩) rfl v
  exact h.kept (row := some e) ⟨k.os, k.tape, k.output, k.size, fun i hi hne => k.block i hi fun e2 => hne (by rw [e2])⟩ (by simpa using hb) (by simpa using hr)
theorem below_grown {w w' : World} (h : w.grownBy w' none) : Below w.heap.size w w' := ⟨h.os, h.tape, h.output, h.size, fun k hk => h.block k hk (by simp)⟩
theorem kept_grown {S : Nat → Prop} {w w' : World} {r : Nat} (h : w.grownBy w' (some r)) (hr : S r) : KeptBut S w w' := KeptBut.of_grown h fun k e => by cases e; exact hr
theorem cutAt_len2 (c : UInt8) (s : List UInt8) : (cutAt c s).1.length ≤ s.length ∧ (cutAt c s).2.1.length ≤ s.length := by
  rcases first_of c s with h | ⟨A, B, rfl, hA⟩
  · rw [cutAt_no h]; simp
  · rw [cutAt_yes hA]; simp; omega
theorem quoG_len : ∀ (l : List UInt8) {t r : List UInt8}, quoG l = some (t, r) → t.length ≤ l.length ∧ r.length ≤ l.length
  | [], t, r, h => by cases h
  | [c], t, r, h => by
    unfold quoG at h
    split at h
    · cases h; simp
    · cases h
  | c :: d :: l, t, r, h => by
    unfold quoG at h
    split at h
    · obtain ⟨p, hp, e⟩ := Option.map_eq_some_iff.1 h
      cases e
      have := quoG_len l hp
      simp only [List.length_cons]; omega
    · split at h
      · cases h; simp
      · obtain ⟨p, hp, e⟩ := Option.map_eq_some_iff.1 h
        cases e
        have := quoG_len (d :: l) hp
        simp only [List.length_cons] at this ⊢; omega
theorem quotedR_len (s : List UInt8) : (quotedR s).1.length ≤ s.length ∧ (quotedR s).2.1.length ≤ s.length := by
  by_cases h : [34].isPrefixOf s = true
  · cases hq : quoG (s.drop 1) with
    | none => rw [quotedR_none h hq]; simp
    | some p =>
      obtain ⟨t, r⟩ := p
      rw [quotedR_some h hq]
      have h1 := quoG_len _ hq
      rw [List.length_drop] at h1
      have h2 : (afterR [] r).length ≤ r.length := by unfold afterR; split <;> simp
      dsimp only
      omega
  · rw [quotedR_no (Bool.eq_false_iff.2 h)]; simp
theorem numR_len (k : Int) (s : List UInt8) : (numR k s).2.1.length ≤ s.length := by
  unfold numR
  split
  · exact (wordR_len s).2
  · exact Nat.le_refl _
theorem numR_bd (k : Int) (s : List UInt8) : -9223372036854775808 ≤ (numR k s).1 ∧ (numR k s).1 ≤ 9223372036854775807 := by
  unfold numR
  split
  · exact atoiV_bd
  · exact ⟨by show -9223372036854775808 ≤ (0 : Int); decide, by show (0 : Int) ≤ 9223372036854775807; decide⟩
theorem txtR_len (k : Int) (s : List UInt8) : (txtR k s).1.length ≤ s.length ∧ (txtR k s).2.1.length ≤ s.length := by
  unfold txtR
  split
  · exact quotedR_len s
  · simp
theorem readKids_bad (rd : List UInt8 → ExprV × List UInt8 × Bool) (s : List UInt8) : ∀ m, readKids rd m s true = ([], s, true)
  | 0 => rfl
  | m + 1 => by rw [readKids, if_pos rfl]
theorem readX_eq (f : Nat) (s : List UInt8) (bad : Bool) (k n : Int) (t s3 : List UInt8) (b1 b2 : Bool) (h : ((ownX s).1, (ownX s).2.1, (ownX s).2.2.1, (ownX s).2.2.2.1) = (k, n, t, s3)) (hb : ∀ q, q = (bad || (decide (f = 0) || (ownX s).2.2.2.2)) → q = b2) :
    readX f s bad = (.mk k n (tx t) (readKids (fun s => readX (f - 1) s false) (manyK k) s3 b2).1, (readKids (fun s => readX (f - 1) s false) (manyK k) s3 b2).2) := by
  simp only [Prod.mk.injEq] at h
  obtain ⟨h1, h2, h3, h4⟩ := h
  have hb2 := hb _ rfl
  cases f with
  | zero =>
    have : b2 = true := by rw [← hb2]; simp
    rw [readX, h1, h2, h3, h4, this, readKids_bad]
  | succ f =>
    have e : (bad || (ownX s).2.2.2.2) = b2 := by rw [← hb2]; simp
    rw [readX]
    simp only [h1, h2, h3, h4, e]
    rfl
theorem readKids_len {rd : List UInt8 → ExprV × List UInt8 × Bool} (h : ∀ s, (rd s).2.1.length ≤ s.length) : ∀ (m : Nat) (s : List UInt8) (b : Bool), (readKids rd m s b).2.1.length ≤ s.length
  | 0, s, b => Nat.le_refl _
  | m + 1, s, b => by
    rw [readKids]
    split
    · exact Nat.le_refl _
    · exact Nat.le_trans (readKids_len h m _ _) (h s)
theorem ownX_len (s : List UInt8) : (ownX s).2.2.2.1.length ≤ s.length := by
  unfold ownX
  have h1 := (wordR_len s).2
  have h2 := numR_len (kindN (wordR s).1) (wordR s).2
  have h3 := (txtR_len (kindN (wordR s).1) (numR (kindN (wordR s).1) (wordR s).2).2.1).2
  dsimp only
  omega
theorem readX_len : ∀ (f : Nat) (s : List UInt8) (b : Bool), (readX f s b).2.1.length ≤ s.length
  | 0, s, b => ownX_len s
  | f + 1, s, b => by
    rw [readX]
    exact Nat.le_trans (readKids_len (fun s => readX_len f s false) _ _ _) (ownX_len s)
theorem ExS.bound {S : Nat → Prop} {w : World} : ∀ {d : Nat} {e : ExprV} {cs : List Value}, ExS S w d e cs → ExS (fun q => S q ∧ q < w.heap.size) w d e cs
  | 0, _, _, h => h
  | d + 1, .mk k0 n s a, cs, h => by
    obtain ⟨ao, cap, e, h1, h2, h3, h4, h5, h6⟩ := h
    refine ⟨ao, cap, e, h1, h2, h3, h4, fun i x hi => ?_, fun b o e1 => ⟨⟨(h6 b o e1).1, (h6 b o e1).2⟩, (h6 b o e1).2⟩⟩
    obtain ⟨b, off, q, e1, hlt, hc, hq⟩ := h5 i x hi
    exact ⟨b, off, q, e1, hlt, hc, hq.bound⟩
/-- kids, in a row of their own, none of them in it -/
structure KidsIn (w : World) (base d : Nat) (v : Value) (l : List ExR) : Prop where
  own : Own 4 ExR.cells 59 w base v l
  kids : ∀ r ∈ l, ExS (fun q => base ≤ q ∧ v.ownBlock ≠ some q) w d r.tree r.cells
theorem KidsIn.nil {w : World} {base d : Nat} : KidsIn w base d (.slice none 0 0) [] := ⟨Own.nil, fun r hr => by cases hr⟩
/-- one more, which another call has made -/
theorem KidsIn.put {wr A w2 : World} {base d rb eb k : Nat} {v v' u : Value} {l : List ExR} {r : ExR} (h : KidsIn wr base d v l) (hrb : rb < base) (heb : eb < base) (hbs : base ≤ wr.heap.size) (hA : KeptBut (fun q => q = rb) wr A) (hr : ExS (fun q => wr.heap.size ≤ q) A d r.tree r.cells)
    (ho : Own 4 ExR.cells 59 w2 base v' (l ++ [r])) (hg : A.grownBy w2 v.ownBlock) (hat : v'.ownBlock = v.ownBlock ∨ v'.ownBlock = some A.heap.size) :
    KidsIn (w2.setCell ⟨eb, k, none⟩ u) base d v' (l ++ [r]) := by
  have hk2 : KeptBut (fun q => v.ownBlock = some q) A w2 := KeptBut.of_grown hg fun q e => e
  have hk3 := (KeptBut.refl (fun q => q = eb) w2).setCell (p := ⟨eb, k, none⟩) rfl u
  have all : ∀ x : ExR, ExS (fun q => base ≤ q ∧ v.ownBlock ≠ some q) A d x.tree x.cells → ExS (fun q => base ≤ q ∧ v'.ownBlock ≠ some q) (w2.setCell ⟨eb, k, none⟩ u) d x.tree x.cells := fun x hx => by
    have h1 := (hx.bound.kept hk2 fun q hq e => hq.1.2 e).mono (T := fun q => base ≤ q ∧ v'.ownBlock ≠ some q) fun q hq => ⟨hq.1.1, fun e => by
      rcases hat with e2 | e2
      · exact hq.1.2 (e2 ▸ e)
      · rw [e2] at e
        have h3 := Option.some.inj e
        have h4 := hq.2
        omega⟩
    exact h1.kept hk3 fun q hq e => by have := hq.1; omega
  refine ⟨ho.setOther (fun e => by have := (ho.lt eb e).1; omega) u, fun x hx => all x ?_⟩
  rcases List.mem_append.1 hx with hx | hx
  · exact (h.kids x hx).kept hA fun q hq e => by have := hq.1; omega
  · rw [List.mem_singleton.1 hx]
    exact hr.mono fun q hq => ⟨by omega, fun e => by have := (h.own.lt q e).2; omega⟩
theorem Bk.set4 {w : World} {b : Nat} {a0 a1 a2 a3 : Value} (v0 v1 v2 v3 : Value) (h : Bk w b [a0, a1, a2, a3]) : Bk ((((w.setCell ⟨b, 0, none⟩ v0).setCell ⟨b, 1, none⟩ v1).setCell ⟨b, 2, none⟩ v2).setCell ⟨b, 3, none⟩ v3) b [v0, v1, v2, v3] :=
  (((h.set (k := 0) (u := a0) v0 rfl).set (k := 1) (u := a1) v1 rfl).set (k := 2) (u := a2) v2 rfl).set (k := 3) (u := a3) v3 rfl
theorem kept_set4 {S : Nat → Prop} {w W : World} {b : Nat} (v0 v1 v2 v3 : Value) (h : KeptBut S w W) (hb : S b ∨ w.heap.size ≤ b) : KeptBut S w ((((W.setCell ⟨b, 0, none⟩ v0).setCell ⟨b, 1, none⟩ v1).setCell ⟨b, 2, none⟩ v2).setCell ⟨b, 3, none⟩ v3) := by
  rcases hb with hb | hb
  · exact (((h.setCell (p := ⟨b, 0, none⟩) hb _).setCell (p := ⟨b, 1, none⟩) hb _).setCell (p := ⟨b, 2, none⟩) hb _).setCell (p := ⟨b, 3, none⟩) hb _
  · exact (((h.setNew (p := ⟨b, 0, none⟩) hb _).setNew (p := ⟨b, 1, none⟩) hb _).setNew (p := ⟨b, 2, none⟩) hb _).setNew (p := ⟨b, 3, none⟩) hb _
/-- the tree whose kids these are -/
theorem KidsIn.tree {w : World} {base d : Nat} {ea : Option Addr} {ec : Nat} {l : List ExR} {k n : Int} {t : ByteArray} {S : Nat → Prop} (h : KidsIn w base d (.slice ea l.length ec) l) (hk : -9223372036854775808 ≤ k ∧ k ≤ 9223372036854775807) (hn : -9223372036854775808 ≤ n ∧ n ≤ 9223372036854775807) (ht : t.size ≤ maxLen) (hl : l.length ≤ maxLen) (hS : ∀ q, base ≤ q → S q) :
    ExS S w (d + 1) (.mk k n t (l.map ExR.tree)) (encX k n t ea (l.map ExR.tree).length ec) := by
  obtain ⟨h1, h2⟩ := kids_own (S := S) h.own (fun r hr => (h.kids r hr).mono fun q hq => hS q hq.1) hS
  exact ⟨ea, ec, rfl, hk, hn, ht, by rw [List.length_map]; exact hl, h1, h2⟩
end Go.Proofs.YtjkggijkccbcpaaDoor
