/- Pairs that are sorted in place: comparison, exchange, insertion, rotation. -/
import Derived.Test.YtgeedjlbajmdkaaGreatDoorErr
import Derived.Test.YtgeedjlbajmdkaaGreatDoorFold
import Derived.Deep.RegionHeld3
import Derived.BigRegion
import Derived.Test.YtgeedjlbajmdkaaGreatDoorRows
set_option linter.unusedSimpArgs false
set_option linter.unusedVariables false
/- Pairs sorted by their keys, those of one key in their order: the plain law. -/
namespace Go.Proofs.YtgeedjlbajmdkaaGreatDoor
open Go.RowKit

theorem bl_irrefl : ∀ x : List UInt8, Op.bytesLess x x = false
  | [] => rfl
  | a :: x => by simp [Op.bytesLess, bl_irrefl x]
theorem u8_eq {a b : UInt8} : a = b ↔ a.toNat = b.toNat := UInt8.toNat_inj.symm
theorem bl_cons (a b : UInt8) (x y : List UInt8) : Op.bytesLess (a :: x) (b :: y) = true ↔ a.toNat < b.toNat ∨ a.toNat = b.toNat ∧ Op.bytesLess x y = true := by
  simp only [Op.bytesLess, Bool.or_eq_true, decide_eq_true_eq, Bool.and_eq_true, beq_iff_eq, UInt8.lt_iff_toNat_lt, u8_eq]
theorem bl_trans : ∀ {x y z : List UInt8}, Op.bytesLess x y = true → Op.bytesLess y z = true → Op.bytesLess x z = true
  | _, [], _, h, _ => by simp [Op.bytesLess] at h
  | _, _ :: _, [], _, h => by simp [Op.bytesLess] at h
  | [], _ :: _, _ :: _, _, _ => rfl
  | a :: x, b :: y, c :: z, h1, h2 => by
    rw [bl_cons] at *
    rcases h1 with h1 | ⟨h1, h3⟩
    · rcases h2 with h2 | ⟨h2, _⟩
      · left; omega
      · left; omega
    · rcases h2 with h2 | ⟨h2, h4⟩
      · left; omega
      · right; exact ⟨by omega, bl_trans h3 h4⟩
theorem bl_tri : ∀ (x y : List UInt8), Op.bytesLess x y = true ∨ x = y ∨ Op.bytesLess y x = true
  | [], [] => .inr (.inl rfl)
  | [], _ :: _ => .inl rfl
  | _ :: _, [] => .inr (.inr rfl)
  | a :: x, b :: y => by
    rw [bl_cons, bl_cons, List.cons.injEq, u8_eq]
    have := bl_tri x y
    rcases Nat.lt_trichotomy a.toNat b.toNat with h | h | h
    · exact .inl (.inl h)
    · rcases this with h2 | h2 | h2
      · exact .inl (.inr ⟨h, h2⟩)
      · exact .inr (.inl ⟨h, h2⟩)
      · exact .inr (.inr (.inr ⟨h.symm, h2⟩))
    · exact .inr (.inr (.inl h))
theorem bl_asymm {x y : List UInt8} (h : Op.bytesLess x y = true) : Op.bytesLess y x = false := by
  cases h2 : Op.bytesLess y x
  · rfl
  · have := bl_trans h h2; rw [bl_irrefl] at this; cases this

/-- the key of a is less than that of b -/
def klt (a b : Pr) : Bool := Op.bytesLess a.1.toList b.1.toList
theorem klt_irrefl (a : Pr) : klt a a = false := bl_irrefl _
theorem klt_trans {a b c : Pr} (h : klt a b = true) (h2 : klt b c = true) : klt a c = true := bl_trans h h2
theorem klt_asymm {a b : Pr} (h : klt a b = true) : klt b a = false := bl_asymm h
theorem klt_eq {a b : Pr} (h : klt a b = false) (h2 : klt b a = false) : a.1.toList = b.1.toList := by
  rcases bl_tri a.1.toList b.1.toList with h3 | h3 | h3
  · unfold klt at h; rw [h3] at h; cases h
  · exact h3
  · unfold klt at h2; rw [h3] at h2; cases h2
/-- a ≤ b ≤ c -/
theorem kle_trans {a b c : Pr} (h : klt b a = false) (h2 : klt c b = false) : klt c a = false := by
  cases h3 : klt c a
  · rfl
  · cases h4 : klt a b
    · have e := klt_eq h4 h
      have : klt c b = true := by unfold klt at *; rw [← e]; exact h3
      rw [h2] at this; cases this
    · have := klt_trans h3 h4; rw [h2] at this; cases this
theorem klt_kle {a b c : Pr} (h : klt a b = true) (h2 : klt c b = false) : klt a c = true := by
  cases h3 : klt a c
  · have := kle_trans h2 h3
    rw [h] at this; cases this
  · rfl
theorem kle_klt {a b c : Pr} (h : klt b a = false) (h2 : klt b c = true) : klt a c = true := by
  cases h3 : klt a c
  · have := kle_trans h3 h
    rw [h2] at this; cases this
  · rfl
theorem klt_ne {a b : Pr} (h : klt a b = true) : ¬ a.1.toList = b.1.toList := by
  intro e; unfold klt at h; rw [e, bl_irrefl] at h; cases h

/-- the keys rise -/
def Rise (l : List Pr) : Prop := l.Pairwise fun a b => klt b a = false
def isK (k : List UInt8) (p : Pr) : Bool := p.1.toList == k
/-- of each key the same pairs in the same order -/
def SameK (l m : List Pr) : Prop := ∀ k, l.filter (isK k) = m.filter (isK k)
theorem SameK.refl (l : List Pr) : SameK l l := fun _ => rfl
theorem SameK.symm {l m : List Pr} (h : SameK l m) : SameK m l := fun k => (h k).symm
theorem SameK.trans {l m n : List Pr} (h : SameK l m) (h2 : SameK m n) : SameK l n := fun k => (h k).trans (h2 k)
theorem SameK.append {a b c d : List Pr} (h : SameK a b) (h2 : SameK c d) : SameK (a ++ c) (b ++ d) := fun k => by rw [List.filter_append, List.filter_append, h k, h2 k]
theorem SameK.nil {m : List Pr} (h : SameK [] m) : m = [] := by
  cases m with
  | nil => rfl
  | cons a m =>
    have := h a.1.toList
    rw [List.filter_nil, List.filter_cons_of_pos (by simp [isK])] at this
    cases this
theorem SameK.cons {a : Pr} {l m : List Pr} (h : SameK (a :: l) (a :: m)) : SameK l m := by
  intro k
  have := h k
  by_cases e : isK k a = true
  · rw [List.filter_cons_of_pos e, List.filter_cons_of_pos e] at this
    exact (List.cons.inj this).2
  · rw [List.filter_cons_of_neg e, List.filter_cons_of_neg e] at this
    exact this
theorem SameK.mem {l m : List Pr} (h : SameK l m) {x : Pr} (hx : x ∈ l) : x ∈ m := by
  have : x ∈ l.filter (isK x.1.toList) := List.mem_filter.2 ⟨hx, by simp [isK]⟩
  rw [h] at this
  exact (List.mem_filter.1 this).1
theorem stable_unique : ∀ {l m : List Pr}, Rise l → Rise m → SameK l m → l = m
  | [], m, _, _, h => h.nil.symm
  | a :: l, [], _, _, h => (h.symm.nil)
  | a :: l, b :: m, hl, hm, h => by
    have ha : a ∈ b :: m := h.mem (List.mem_cons_self)
    have hb : b ∈ a :: l := h.symm.mem (List.mem_cons_self)
    have l1 := List.pairwise_cons.1 hl
    have m1 := List.pairwise_cons.1 hm
    have e : a.1.toList = b.1.toList := by
      have c1 : klt b a = false := by
        rcases List.mem_cons.1 hb with e | e
        · rw [e]; exact klt_irrefl _
        · exact l1.1 b e
      have c2 : klt a b = false := by
        rcases List.mem_cons.1 ha with e | e
        · rw [e]; exact klt_irrefl _
        · exact m1.1 a e
      exact klt_eq c2 c1
    have hf := h a.1.toList
    rw [List.filter_cons_of_pos (by simp [isK]), List.filter_cons_of_pos (by simp [isK, e])] at hf
    obtain rfl := (List.cons.inj hf).1
    rw [stable_unique l1.2 m1.2 h.cons]

/-- x behind all that are not above it -/
def ins (x : Pr) : List Pr → List Pr
  | [] => [x]
  | y :: l => if klt x y then x :: y :: l else y :: ins x l
def srt (l : List Pr) : List Pr := l.foldl (fun s x => ins x s) []
theorem srt_snoc (l : List Pr) (x : Pr) : srt (l ++ [x]) = ins x (srt l) := by unfold srt; rw [List.foldl_append]; rfl
theorem mem_ins {x y : Pr} : ∀ {l : List Pr}, y ∈ ins x l ↔ y = x ∨ y ∈ l
  | [] => by simp [ins]
  | z :: l => by
    unfold ins
    split
    · simp
    · rw [List.mem_cons, mem_ins, List.mem_cons]
      constructor
      · rintro (h | h | h)
        · exact .inr (.inl h)
        · exact .inl h
        · exact .inr (.inr h)
      · rintro (h | h | h)
        · exact .inr (.inl h)
        · exact .inl h
        · exact .inr (.inr h)
theorem ins_rise {x : Pr} : ∀ {l : List Pr}, Rise l → Rise (ins x l)
  | [], _ => List.pairwise_singleton _ _
  | y :: l, h => by
    have h1 := List.pairwise_cons.1 h
    unfold ins
    split
    · rename_i hx
      refine List.pairwise_cons.2 ⟨fun z hz => ?_, h⟩
      rcases List.mem_cons.1 hz with e | e
      · rw [e]; exact klt_asymm hx
      · exact kle_trans (klt_asymm hx) (h1.1 z e)
    · rename_i hx
      refine List.pairwise_cons.2 ⟨fun z hz => ?_, ins_rise h1.2⟩
      rcases mem_ins.1 hz with e | e
      · rw [e]; simpa using hx
      · exact h1.1 z e
theorem ins_same {x : Pr} : ∀ {l : List Pr}, Rise l → SameK (ins x l) (l ++ [x])
  | [], _ => fun _ => rfl
  | y :: l, h => by
    have h1 := List.pairwise_cons.1 h
    unfold ins
    split
    · rename_i hx
      intro k
      by_cases e : isK k x = true
      · have hn : ∀ z ∈ y :: l, isK k z = false := by
          intro z hz
          have : klt x z = true := by
            rcases List.mem_cons.1 hz with e | e
            · rw [e]; exact hx
            · exact klt_kle hx (h1.1 z e)
          have := klt_ne this
          simp only [isK, beq_iff_eq] at e
          simp only [isK, beq_eq_false_iff_ne]
          rw [← e]; exact fun e => this e.symm
        have : (y :: l).filter (isK k) = [] := List.filter_eq_nil_iff.2 (fun z hz => by rw [hn z hz]; simp)
        rw [List.filter_cons_of_pos e, List.filter_append, this, List.filter_cons_of_pos e]
        rfl
      · rw [List.filter_cons_of_neg e, List.filter_append, List.filter_cons_of_neg e]
        simp
    · intro k
      have := ins_same h1.2 k (x := x)
      rw [List.cons_append]
      by_cases e : isK k y = true
      · rw [List.filter_cons_of_pos e, List.filter_cons_of_pos e, this]
      · rw [List.filter_cons_of_neg e, List.filter_cons_of_neg e, this]
theorem rev_ind {α : Type} {P : List α → Prop} (h0 : P []) (hs : ∀ l x, P l → P (l ++ [x])) (l : List α) : P l := by
  have : ∀ m : List α, P m.reverse := by
    intro m
    induction m with
    | nil => exact h0
    | cons x m ih => rw [List.reverse_cons]; exact hs _ _ ih
  simpa using this l.reverse
theorem srt_all (l : List Pr) : Rise (srt l) ∧ SameK (srt l) l := by
  refine rev_ind (P := fun l => Rise (srt l) ∧ SameK (srt l) l) ⟨List.Pairwise.nil, SameK.refl _⟩ (fun l x ih => ?_) l
  · rw [srt_snoc]
    exact ⟨ins_rise ih.1, (ins_same ih.1).trans (ih.2.append (SameK.refl _))⟩
theorem srt_rise (l : List Pr) : Rise (srt l) := (srt_all l).1
theorem srt_same (l : List Pr) : SameK (srt l) l := (srt_all l).2
theorem srt_of {l m : List Pr} (h : Rise m) (h2 : SameK m l) : m = srt l := stable_unique h (srt_rise l) (h2.trans (srt_same l).symm)
theorem srt_congr {l m : List Pr} (h : SameK l m) : srt l = srt m := srt_of (srt_rise l) ((srt_same l).trans h)
theorem srt_id {l : List Pr} (h : Rise l) : srt l = l := (srt_of h (SameK.refl l)).symm
theorem ins_len (x : Pr) : ∀ l, (ins x l).length = l.length + 1
  | [] => rfl
  | y :: l => by unfold ins; split <;> simp [ins_len x l]
theorem srt_len (l : List Pr) : (srt l).length = l.length := by
  refine rev_ind (P := fun l => (srt l).length = l.length) rfl (fun l x ih => ?_) l
  rw [srt_snoc, ins_len, ih]; simp
theorem ins_perm (x : Pr) : ∀ l, (ins x l).Perm (x :: l)
  | [] => List.Perm.refl _
  | y :: l => by
    unfold ins; split
    · exact List.Perm.refl _
    · exact ((ins_perm x l).cons y).trans (List.Perm.swap x y l)
theorem srt_perm (l : List Pr) : (srt l).Perm l := by
  refine rev_ind (P := fun l => (srt l).Perm l) (List.Perm.refl _) (fun l x ih => ?_) l
  · rw [srt_snoc]
    exact ((ins_perm x _).trans (ih.cons x)).trans (List.perm_append_singleton x l).symm
theorem mem_srt {x : Pr} {l : List Pr} : x ∈ srt l ↔ x ∈ l := (srt_perm l).mem_iff
theorem Rise.append {a b : List Pr} : Rise (a ++ b) ↔ Rise a ∧ Rise b ∧ ∀ x ∈ a, ∀ y ∈ b, klt y x = false := List.pairwise_append
theorem Rise.sub {a b : List Pr} (h : Rise b) (s : a.Sublist b) : Rise a := List.Pairwise.sublist s h

/-- the step of an insertion: S1, x, S2, with x below all of S2 -/
theorem ins_at {x : Pr} : ∀ {S1 S2 : List Pr}, (∀ y ∈ S1, klt x y = false) → (∀ y ∈ S2, klt x y = true) → ins x (S1 ++ S2) = S1 ++ x :: S2
  | [], [], _, _ => rfl
  | [], y :: S2, _, h => by
    show ins x (y :: S2) = x :: y :: S2
    unfold ins; rw [if_pos (h y (List.mem_cons_self))]
  | y :: S1, S2, h1, h2 => by
    show ins x (y :: (S1 ++ S2)) = y :: (S1 ++ x :: S2)
    unfold ins
    rw [if_neg (by rw [h1 y (List.mem_cons_self)]; simp), ins_at (fun z hz => h1 z (List.mem_cons_of_mem _ hz)) h2]

/-- places a .. b of l, sorted -/
def seg (l : List Pr) (a b : Nat) : List Pr := (l.drop a).take (b - a)
def sortSeg (l : List Pr) (a b : Nat) : List Pr := l.take a ++ srt (seg l a b) ++ l.drop b
theorem seg_split (l : List Pr) {a b : Nat} (h : a ≤ b) (h2 : b ≤ l.length) : l = l.take a ++ seg l a b ++ l.drop b := by
  unfold seg
  have : l.take a ++ (l.drop a).take (b - a) = l.take b := by
    rw [show b = a + (b - a) by omega, List.take_add]
    congr 2 <;> omega
  rw [this, List.take_append_drop]
theorem seg_len (l : List Pr) {a b : Nat} (h : a ≤ b) (h2 : b ≤ l.length) : (seg l a b).length = b - a := by
  unfold seg; rw [List.length_take, List.length_drop]; omega
theorem sortSeg_len (l : List Pr) {a b : Nat} (h : a ≤ b) (h2 : b ≤ l.length) : (sortSeg l a b).length = l.length := by
  unfold sortSeg; rw [List.length_append, List.length_append, srt_len, seg_len l h h2, List.length_take, List.length_drop]; omega
theorem sortSeg_same (l : List Pr) {a b : Nat} (h : a ≤ b) (h2 : b ≤ l.length) : SameK (sortSeg l a b) l := by
  have : SameK (l.take a ++ srt (seg l a b) ++ l.drop b) (l.take a ++ seg l a b ++ l.drop b) := ((SameK.refl _).append (srt_same _)).append (SameK.refl _)
  rw [← seg_split l h h2] at this
  exact this
theorem seg_of {A S B l : List Pr} {a b : Nat} (hl : l = A ++ S ++ B) (ha : A.length = a) (hb : A.length + S.length = b) : seg l a b = S ∧ l.take a = A ∧ l.drop b = B := by
  subst hl ha hb
  refine ⟨?_, ?_, ?_⟩
  · unfold seg; rw [List.append_assoc, List.drop_left, show A.length + S.length - A.length = S.length by omega, List.take_left]
  · rw [List.append_assoc, List.take_left]
  · rw [← List.length_append, List.drop_left]
theorem sortSeg_of {A S B l : List Pr} {a b : Nat} (hl : l = A ++ S ++ B) (ha : A.length = a) (hb : A.length + S.length = b) : sortSeg l a b = A ++ srt S ++ B := by
  obtain ⟨h1, h2, h3⟩ := seg_of hl ha hb
  unfold sortSeg; rw [h1, h2, h3]

/-- places i and j exchanged -/
def swapAt (l : List Pr) (i j : Nat) : List Pr := match l[i]?, l[j]? with
  | some x, some y => (l.set i y).set j x
  | _, _ => l
theorem swapAt_len (l : List Pr) (i j : Nat) : (swapAt l i j).length = l.length := by unfold swapAt; split <;> simp
theorem swapAt_of {l : List Pr} {i j : Nat} {x y : Pr} (hi : l[i]? = some x) (hj : l[j]? = some y) : swapAt l i j = (l.set i y).set j x := by unfold swapAt; rw [hi, hj]
theorem get_mid {A B : List Pr} {x : Pr} {n : Nat} (h : A.length = n) : (A ++ x :: B)[n]? = some x := by rw [List.getElem?_append_right (by omega)]; simp [h]
theorem set_mid {A B : List Pr} {x y : Pr} {n : Nat} (h : A.length = n) : (A ++ x :: B).set n y = A ++ y :: B := by rw [List.set_append_right _ _ (by omega)]; simp [h]
theorem swap_two {A M B : List Pr} {x y : Pr} {i j : Nat} (hi : A.length = i) (hj : A.length + 1 + M.length = j) : swapAt (A ++ x :: (M ++ y :: B)) i j = A ++ y :: (M ++ x :: B) := by
  have e : ∀ z : Pr, A ++ z :: (M ++ y :: B) = (A ++ z :: M) ++ y :: B := by intro z; simp
  have hl : ∀ z : Pr, (A ++ z :: M).length = j := by intro z; simp; omega
  rw [swapAt_of (get_mid hi) (by rw [e]; exact get_mid (hl x)), set_mid hi, e, set_mid (hl y)]
  simp
theorem swap_adj {A B : List Pr} {x y : Pr} {i j : Nat} (hi : A.length = i) (hj : i + 1 = j) : swapAt (A ++ x :: y :: B) i j = A ++ y :: x :: B := swap_two (M := []) hi (by simp; omega)
theorem swap_adj' {A B : List Pr} {x y : Pr} {i j : Nat} (hi : A.length = i) (hj : i + 1 = j) : swapAt (A ++ x :: y :: B) j i = A ++ y :: x :: B := by
  have e : A ++ x :: y :: B = (A ++ [x]) ++ y :: B := by simp
  have hl : (A ++ [x]).length = j := by simp; omega
  rw [swapAt_of (by rw [e]; exact get_mid hl) (get_mid hi), e, set_mid hl]
  rw [show (A ++ [x]) ++ x :: B = A ++ x :: (x :: B) by simp, set_mid hi]

/-- n places from a on and n from b on exchanged -/
def swapN (l : List Pr) (a b : Nat) : Nat → List Pr
  | 0 => l
  | i + 1 => swapAt (swapN l a b i) (a + i) (b + i)
theorem swapN_len (l : List Pr) (a b : Nat) : ∀ n, (swapN l a b n).length = l.length
  | 0 => rfl
  | n + 1 => by unfold swapN; rw [swapAt_len, swapN_len l a b n]
theorem swapN_at {A M B : List Pr} {a b : Nat} : ∀ {n : Nat} {X Y X' Y' : List Pr}, X.length = n → Y.length = n → A.length = a → A.length + n + X'.length + M.length = b → X'.length = Y'.length → swapN (A ++ (X ++ X') ++ M ++ (Y ++ Y') ++ B) a b n = A ++ (Y ++ X') ++ M ++ (X ++ Y') ++ B
  | 0, X, Y, X', Y', hx, hy, _, _, _ => by
    obtain rfl := List.length_eq_zero_iff.1 hx
    obtain rfl := List.length_eq_zero_iff.1 hy
    rfl
  | n + 1, X, Y, X', Y', hx, hy, ha, hb, he => by
    obtain ⟨X1, x, rfl⟩ : ∃ X1 x, X = X1 ++ [x] := ⟨X.dropLast, X.getLast (by intro e; subst e; simp at hx), (List.dropLast_concat_getLast _).symm⟩
    obtain ⟨Y1, y, rfl⟩ : ∃ Y1 y, Y = Y1 ++ [y] := ⟨Y.dropLast, Y.getLast (by intro e; subst e; simp at hy), (List.dropLast_concat_getLast _).symm⟩
    simp at hx hy
    have ih := swapN_at (A := A) (M := M) (B := B) (a := a) (b := b) (n := n) (X := X1) (Y := Y1) (X' := x :: X') (Y' := y :: Y') hx hy ha (by simp; omega) (by simp [he])
    unfold swapN
    rw [show A ++ (X1 ++ [x] ++ X') ++ M ++ (Y1 ++ [y] ++ Y') ++ B = A ++ (X1 ++ x :: X') ++ M ++ (Y1 ++ y :: Y') ++ B by simp, ih]
    have := swap_two (A := A ++ Y1) (M := X' ++ M ++ X1) (B := Y' ++ B) (x := x) (y := y) (i := a + n) (j := b + n) (by simp; omega) (by simp; omega)
    simp only [List.append_assoc, List.cons_append, List.nil_append] at this ⊢
    exact this
theorem swapN_two {A X M Y B : List Pr} {a b n : Nat} (hx : X.length = n) (hy : Y.length = n) (ha : A.length = a) (hb : A.length + n + M.length = b) : swapN (A ++ X ++ M ++ Y ++ B) a b n = A ++ Y ++ M ++ X ++ B := by
  have := swapN_at (A := A) (M := M) (B := B) (a := a) (b := b) (n := n) (X := X) (Y := Y) (X' := []) (Y' := []) hx hy ha (by simp; omega) rfl
  simpa using this

/-- x at place j sinks to its place, not below lo -/
def sink (l : List Pr) (lo : Nat) : Nat → List Pr
  | 0 => l
  | j + 1 => match l[j + 1]?, l[j]? with
    | some x, some y => if lo < j + 1 ∧ klt x y = true then sink (swapAt l (j + 1) j) lo j else l
    | _, _ => l
theorem sink_len (lo : Nat) : ∀ (j : Nat) (l : List Pr), (sink l lo j).length = l.length
  | 0, l => rfl
  | j + 1, l => by
    unfold sink
    split
    · split
      · rw [sink_len lo j, swapAt_len]
      · rfl
    · rfl
theorem sink_at {A : List Pr} {x : Pr} {lo : Nat} (ha : A.length = lo) : ∀ {j : Nat} {S B : List Pr}, A.length + S.length = j → Rise S → sink (A ++ S ++ x :: B) lo j = A ++ ins x S ++ B
  | 0, S, B, hj, hr => by
    obtain rfl : S = [] := List.length_eq_zero_iff.1 (by omega)
    unfold sink ins; simp
  | j + 1, S, B, hj, hr => by
    rcases List.eq_nil_or_concat S with rfl | ⟨S1, y, rfl⟩
    · have hlo : ¬ lo < j + 1 := by simp at hj; omega
      unfold sink ins
      split
      · rw [if_neg (fun h => hlo h.1)]; simp
      · simp
    · simp only [List.concat_eq_append] at *
      simp at hj
      have e : A ++ (S1 ++ [y]) ++ x :: B = (A ++ S1) ++ y :: x :: B := by simp
      have hl : (A ++ S1).length = j := by simp; omega
      have g1 : ((A ++ S1) ++ y :: x :: B)[j + 1]? = some x := by
        rw [show (A ++ S1) ++ y :: x :: B = (A ++ S1 ++ [y]) ++ x :: B by simp]; exact get_mid (by simp; omega)
      have g0 : ((A ++ S1) ++ y :: x :: B)[j]? = some y := get_mid hl
      have hr2 := List.pairwise_append.1 hr
      rw [e]
      unfold sink
      rw [g1, g0]
      simp only
      cases hk : klt x y
      · rw [if_neg (by simp)]
        have : ins x (S1 ++ [y]) = S1 ++ [y] ++ [x] := by
          have := ins_at (x := x) (S1 := S1 ++ [y]) (S2 := []) (fun z hz => by
            rcases List.mem_append.1 hz with h | h
            · exact kle_trans (hr2.2.2 z h y (by simp)) hk
            · rw [List.mem_singleton.1 h]; exact hk) (fun z hz => by cases hz)
          simpa using this
        rw [this]; simp
      · rw [if_pos ⟨by omega, rfl⟩, swap_adj' hl rfl, show (A ++ S1) ++ x :: y :: B = A ++ S1 ++ x :: (y :: B) by rfl, sink_at ha (by omega) hr2.1]
        have : ins x (S1 ++ [y]) = ins x S1 ++ [y] := by
          clear g0 g1 e hl hj hr
          obtain ⟨hr1, _, hr3⟩ := hr2
          induction S1 with
          | nil => show ins x (y :: []) = x :: y :: []; unfold ins; rw [if_pos hk]
          | cons z S1 ih =>
            have h1 := List.pairwise_cons.1 hr1
            show ins x (z :: (S1 ++ [y])) = _
            unfold ins
            split
            · rfl
            · rw [ih h1.2 (fun u hu => hr3 u (List.mem_cons_of_mem _ hu))]; rfl
        rw [this]; simp
/-- places a .. a + k of l, sorted by insertion -/
def insTo (l : List Pr) (a : Nat) : Nat → List Pr
  | 0 => l
  | k + 1 => sink (insTo l a k) a (a + 1 + k)
theorem insTo_len (l : List Pr) (a : Nat) : ∀ k, (insTo l a k).length = l.length
  | 0 => rfl
  | k + 1 => by unfold insTo; rw [sink_len, insTo_len l a k]
theorem srt_one (x : Pr) : srt [x] = [x] := rfl
theorem sortSeg_small (l : List Pr) {a b : Nat} (h : b ≤ a + 1) (ha : a ≤ b) (h2 : b ≤ l.length) : sortSeg l a b = l := by
  have hs := seg_split l ha h2
  have hl := seg_len l ha h2
  have : srt (seg l a b) = seg l a b := by
    rcases hS : seg l a b with _ | ⟨x, _ | ⟨y, S⟩⟩
    · rfl
    · rfl
    · rw [hS] at hl; simp at hl; omega
  unfold sortSeg; rw [this]; exact hs.symm
theorem seg_succ {l : List Pr} {a b : Nat} {x : Pr} (h : a ≤ b) (hx : l[b]? = some x) : seg l a (b + 1) = seg l a b ++ [x] ∧ l.drop b = x :: l.drop (b + 1) := by
  have hlt := (List.getElem?_eq_some_iff.1 hx).1
  have h3 : l.drop b = x :: l.drop (b + 1) := by rw [List.drop_eq_getElem_cons hlt, (List.getElem?_eq_some_iff.1 hx).2]
  refine ⟨?_, h3⟩
  unfold seg
  rw [show b + 1 - a = (b - a) + 1 by omega, List.take_add]
  congr 1
  rw [List.drop_drop, show a + (b - a) = b by omega, h3]
  rfl
theorem insTo_at (l : List Pr) (a : Nat) : ∀ k, a + 1 + k ≤ l.length → insTo l a k = sortSeg l a (a + 1 + k)
  | 0, h => by unfold insTo; rw [sortSeg_small l (by omega) (by omega) h]
  | k + 1, h => by
    obtain ⟨x, hx⟩ : ∃ x, l[a + 1 + k]? = some x := ⟨l[a + 1 + k], by simp [show a + 1 + k < l.length by omega]⟩
    obtain ⟨s1, s2⟩ := seg_succ (a := a) (by omega) hx
    unfold insTo
    rw [insTo_at l a k (by omega)]
    unfold sortSeg
    rw [s2, sink_at (A := l.take a) (by simp; omega) (by rw [srt_len, seg_len l (by omega) (by omega)]; simp; omega) (srt_rise _), show a + 1 + (k + 1) = a + 1 + k + 1 by omega, s1, srt_snoc]

/-- x at place a goes up n places -/
def upBy (l : List Pr) (a : Nat) : Nat → List Pr
  | 0 => l
  | k + 1 => swapAt (upBy l a k) (a + k) (a + k + 1)
theorem upBy_len (l : List Pr) (a : Nat) : ∀ k, (upBy l a k).length = l.length
  | 0 => rfl
  | k + 1 => by unfold upBy; rw [swapAt_len, upBy_len l a k]
theorem upBy_at {A : List Pr} {x : Pr} {a : Nat} (ha : A.length = a) : ∀ {n : Nat} {R B : List Pr}, R.length = n → upBy (A ++ x :: (R ++ B)) a n = A ++ R ++ x :: B
  | 0, R, B, h => by
    obtain rfl := List.length_eq_zero_iff.1 h
    unfold upBy; simp
  | n + 1, R, B, h => by
    obtain ⟨R1, y, rfl⟩ : ∃ R1 y, R = R1 ++ [y] := ⟨R.dropLast, R.getLast (by intro e; subst e; simp at h), (List.dropLast_concat_getLast _).symm⟩
    simp at h
    unfold upBy
    rw [show A ++ x :: (R1 ++ [y] ++ B) = A ++ x :: (R1 ++ (y :: B)) by simp, upBy_at ha h, swap_adj (by simp; omega) rfl]
    simp
/-- x at place m goes down n places -/
def downBy (l : List Pr) (m : Nat) : Nat → List Pr
  | 0 => l
  | k + 1 => swapAt (downBy l m k) (m - k) (m - k - 1)
theorem downBy_len (l : List Pr) (a : Nat) : ∀ k, (downBy l a k).length = l.length
  | 0 => rfl
  | k + 1 => by unfold downBy; rw [swapAt_len, downBy_len l a k]
theorem downBy_at {A : List Pr} {x : Pr} : ∀ {n m : Nat} {A S B : List Pr}, S.length = n → A.length + n = m → downBy (A ++ S ++ x :: B) m n = A ++ x :: S ++ B
  | 0, m, A, S, B, h, hm => by
    obtain rfl := List.length_eq_zero_iff.1 h
    unfold downBy; simp
  | n + 1, m, A, S, B, h, hm => by
    cases S with
    | nil => simp at h
    | cons y S =>
      simp at h
      unfold downBy
      rw [show A ++ y :: S ++ x :: B = (A ++ [y]) ++ S ++ x :: B by simp, downBy_at (A := A ++ [y]) h (by simp; omega), show A ++ [y] ++ x :: S ++ B = A ++ y :: x :: (S ++ B) by simp, swap_adj' (i := m - n - 1) (j := m - n) (by omega) (by omega)]
      simp

theorem srt_up {x : Pr} {R1 R2 : List Pr} (hr : Rise (R1 ++ R2)) (h1 : ∀ y ∈ R1, klt y x = true) (h2 : ∀ y ∈ R2, klt y x = false) : R1 ++ x :: R2 = srt (x :: (R1 ++ R2)) := by
  obtain ⟨r1, r2, r3⟩ := Rise.append.1 hr
  refine srt_of (Rise.append.2 ⟨r1, List.pairwise_cons.2 ⟨h2, r2⟩, fun y hy z hz => ?_⟩) ?_
  · rcases List.mem_cons.1 hz with e | e
    · rw [e]; exact klt_asymm (h1 y hy)
    · exact r3 y hy z e
  · intro k
    by_cases e : isK k x = true
    · have : R1.filter (isK k) = [] := List.filter_eq_nil_iff.2 (fun z hz => by
        have := klt_ne (h1 z hz)
        simp only [isK, beq_iff_eq] at e
        simp only [isK, beq_iff_eq]
        rw [← e]; exact this)
      rw [List.filter_append, this, List.filter_cons_of_pos e, List.filter_cons_of_pos e, List.filter_append, this]
      rfl
    · rw [List.filter_append, List.filter_cons_of_neg e, List.filter_cons_of_neg e, List.filter_append]
theorem srt_down {x : Pr} {L1 L2 : List Pr} (hr : Rise (L1 ++ L2)) (h1 : ∀ y ∈ L1, klt x y = false) (h2 : ∀ y ∈ L2, klt x y = true) : L1 ++ x :: L2 = srt (L1 ++ L2 ++ [x]) := by
  rw [srt_snoc, srt_id hr, ins_at h1 h2]
theorem merge_halves {L1 L2 R1 R2 : List Pr} (hl : Rise (L1 ++ L2)) (hr : Rise (R1 ++ R2)) (h1 : ∀ x ∈ R1, ∀ y ∈ L2, klt x y = true) (h2 : ∀ x ∈ L1, ∀ y ∈ R2, klt y x = false) :
    srt (L1 ++ R1) ++ srt (L2 ++ R2) = srt (L1 ++ L2 ++ (R1 ++ R2)) := by
  obtain ⟨l1, l2, l3⟩ := Rise.append.1 hl
  obtain ⟨r1, r2, r3⟩ := Rise.append.1 hr
  refine srt_of (Rise.append.2 ⟨srt_rise _, srt_rise _, fun x hx y hy => ?_⟩) ?_
  · rw [mem_srt, List.mem_append] at hx hy
    rcases hx with hx | hx
    · rcases hy with hy | hy
      · exact l3 x hx y hy
      · exact h2 x hx y hy
    · rcases hy with hy | hy
      · exact klt_asymm (h1 x hx y hy)
      · exact r3 x hx y hy
  · refine ((srt_same _).append (srt_same _)).trans fun k => ?_
    simp only [List.filter_append, List.append_assoc]
    congr 1
    rw [← List.append_assoc, ← List.append_assoc]
    congr 1
    by_cases e : R1.filter (isK k) = []
    · rw [e]; simp
    · have : L2.filter (isK k) = [] := List.filter_eq_nil_iff.2 (fun z hz hk => by
        obtain ⟨u, hu⟩ := List.exists_mem_of_ne_nil _ e
        obtain ⟨hu1, hu2⟩ := List.mem_filter.1 hu
        have := klt_ne (h1 u hu1 z hz)
        simp only [isK, beq_iff_eq] at hk hu2
        rw [hk, hu2] at this
        exact this rfl)
      rw [this]; simp
end Go.Proofs.YtgeedjlbajmdkaaGreatDoor
namespace Go.Proofs.YtgeedjlbajmdkaaGreatDoor
open Go.RowKit

theorem isNaN_s (s : ByteArray) (w : World) :
    Calls Tryz.prog 125 #[.string s] w fun e w' => e = .returned (.bool false) ∧ w = w' := by
  go_enter Tryz.func125, Tryz.ntmps125
  go_wp2
  go_ret
  exact ⟨by simp, rfl⟩
def cmpI (a b : ByteArray) : Int := if Op.bytesLess a.toList b.toList then -1 else if Op.bytesLess b.toList a.toList then 1 else 0
theorem Compare_s (x y : ByteArray) (w : World) :
    Calls Tryz.prog 105 #[.string x, .string y] w fun e w' => e = .returned (.int .i64 (cmpI x y)) ∧ w = w' := by
  cases h : Op.bytesLess x.toList y.toList
  · cases h2 : Op.bytesLess y.toList x.toList
    · have hr : cmpI x y = 0 := by unfold cmpI; rw [h, h2]; rfl
      have he : (x.toList == y.toList) = true := by
        rcases bl_tri x.toList y.toList with h3 | h3 | h3
        · rw [h] at h3; cases h3
        · simpa using h3
        · rw [h2] at h3; cases h3
      rw [hr]; clear hr
      go_enter Tryz.func105, Tryz.ntmps105
      go_wp2_with (go_at_call 125; refine (isNaN_s _ _).mono ?_; rintro e w1 ⟨rfl, rfl⟩)
      go_ret
      exact ⟨rfl, rfl⟩
    · have hr : cmpI x y = 1 := by unfold cmpI; rw [h, h2]; rfl
      have he : (x.toList == y.toList) = false := by
        rw [beq_eq_false_iff_ne]; intro e; rw [e, bl_irrefl] at h2; cases h2
      rw [hr]; clear hr
      go_enter Tryz.func105, Tryz.ntmps105
      go_wp2_with (go_at_call 125; refine (isNaN_s _ _).mono ?_; rintro e w1 ⟨rfl, rfl⟩)
      go_ret
      exact ⟨rfl, rfl⟩
  · have hr : cmpI x y = -1 := by unfold cmpI; rw [h]; rfl
    rw [hr]; clear hr
    go_enter Tryz.func105, Tryz.ntmps105
    go_wp2_with (go_at_call 125; refine (isNaN_s _ _).mono ?_; rintro e w1 ⟨rfl, rfl⟩)
    go_ret
    exact ⟨rfl, rfl⟩
theorem cmpI_neg (a b : Pr) : decide (cmpI a.1 b.1 < 0) = klt a b := by
  unfold cmpI klt
  split
  · rename_i h; rw [h]; rfl
  · rename_i h
    have h' : Op.bytesLess a.1.toList b.1.toList = false := by simpa using h
    rw [h']
    split <;> rfl
/-- the value of a pair -/
def prV (p : Pr) : Value := .agg #[.string p.1, .int .i64 p.2]
theorem sortCmp (a b : Pr) (w : World) :
    Calls Tryz.prog 104 #[.agg #[.string a.1, .int .i64 a.2], .agg #[.string b.1, .int .i64 b.2]] w fun e w' => e = .returned (.int .i64 (cmpI a.1 b.1)) ∧ Below w.heap.size w w' := by
  go_enter Tryz.func104, Tryz.ntmps104
  go_wp2_with fail
  refine (Compare_s _ _ _).mono ?_
  rintro e w1 ⟨rfl, rfl⟩
  go_wp2
  go_ret
  exact ⟨rfl, ((Below.refl _ _).alloc (Nat.le_refl _) _).alloc (by simp) _⟩

/-- the pairs l lie in block g, of the call's own -/
abbrev OwnP (w : World) (base g n cap : Nat) (l : List Pr) : Prop := Own 2 encP 101 w base (.slice (some ⟨g, 0, none⟩) n cap) l
theorem OwnP.at {w : World} {base g n cap : Nat} {l : List Pr} (h : OwnP w base g n cap l) {i : Nat} {p : Pr} (hi : l[i]? = some p) :
    w.cell? ⟨g, i * 2, none⟩ = some (.string p.1) ∧ w.cell? ⟨g, i * 2 + 1, none⟩ = some (.int .i64 p.2) ∧ w.frozen? ⟨g, i * 2, none⟩ = false ∧ w.frozen? ⟨g, i * 2 + 1, none⟩ = false ∧ i < n :=
  ⟨h.cellAt (j := 0) encP_len hi rfl, h.cellAt (j := 1) encP_len hi rfl, h.frozenAt _, h.frozenAt _, by rw [h.len]; exact (List.getElem?_eq_some_iff.1 hi).1⟩
def setPr (w : World) (g k : Nat) (p : Pr) : World := (w.setCell ⟨g, k * 2, none⟩ (.string p.1)).setCell ⟨g, k * 2 + 1, none⟩ (.int .i64 p.2)
theorem OwnP.set {w : World} {base g n cap k : Nat} {l : List Pr} {x : Pr} (h : OwnP w base g n cap l) (hk : l[k]? = some x) (p : Pr) : OwnP (setPr w g k p) base g n cap (l.set k p) := by
  obtain ⟨x0, x1⟩ := x
  obtain ⟨p0, p1⟩ := p
  have hlt := (List.getElem?_eq_some_iff.1 hk).1
  have h0 := h.set' (j := 0) (y := (p0, x1)) (u := .string p0) encP_len hk (by decide) rfl
  have h1 := h0.set' (k := k) (x := (p0, x1)) (j := 1) (y := (p0, p1)) (u := .int .i64 p1) encP_len (List.getElem?_set_self hlt) (by decide) rfl
  rw [List.set_set] at h1
  exact h1
theorem setPr_kept (w : World) (g k : Nat) (p : Pr) : KeptBut (fun q => q = g) w (setPr w g k p) := ((KeptBut.refl (fun q => q = g) w).setCell (p := ⟨g, k * 2, none⟩) rfl _).setCell (p := ⟨g, k * 2 + 1, none⟩) rfl _
theorem OwnP.swap {w : World} {base g n cap i j : Nat} {l : List Pr} {x y : Pr} (h : OwnP w base g n cap l) (hi : l[i]? = some x) (hj : l[j]? = some y) : OwnP (setPr (setPr w g i y) g j x) base g n cap (swapAt l i j) := by
  rw [swapAt_of hi hj]
  obtain ⟨z, hz⟩ : ∃ z, (l.set i y)[j]? = some z := by
    have := (List.getElem?_eq_some_iff.1 hj).1
    exact ⟨(l.set i y)[j]'(by simpa using this), by simp [this]⟩
  exact (h.set hi y).set hz x
theorem swap_kept (w : World) (g i j : Nat) (x y : Pr) : KeptBut (fun q => q = g) w (setPr (setPr w g i y) g j x) := (setPr_kept w g i y).trans (setPr_kept _ g j x)

set_option maxHeartbeats 1000000 in
theorem swapRange_any (a b n m cap g : Nat) (l : List Pr) (c : Value) {w : World} {base : Nat} (h : OwnP w base g m cap l) (hm : m ≤ 1000000000) (ha : a + n ≤ m) (hb : b + n ≤ m) (hd : a + n ≤ b) :
    Calls Tryz.prog 166 #[.slice (some ⟨g, 0, none⟩) m cap, .int .i64 a, .int .i64 b, .int .i64 n, c] w fun e w' => e = .returned (.tuple #[]) ∧ KeptBut (fun q => q = g) w w' ∧ OwnP w' base g m cap (swapN l a b n) := by
  have hlen := hide h.len
  have H := hide h; clear h
  go_enter Tryz.func166, Tryz.ntmps166
  go_wp2
  go_loopw [10] (fun i wr => ∃ k : Nat, k ≤ n ∧ i = .int .i64 k ∧ KeptBut (fun q => q = g) w wr ∧ OwnP wr base g m cap (swapN l a b k)) (fun i _ => n - (intOf i).toNat)
  case atStart => exact ⟨0, by omega, rfl, KeptBut.refl _ _, H.out⟩
  case round =>
    obtain ⟨k, hk, rfl, hkb, hown⟩ := hrel
    by_cases hlt : k < n
    · have hl := swapN_len l a b k
      rw [← hlen.out] at hl
      obtain ⟨x, hx⟩ : ∃ x, (swapN l a b k)[a + k]? = some x := ⟨(swapN l a b k)[a + k]'(by omega), by simp [show a + k < (swapN l a b k).length by omega]⟩
      obtain ⟨y, hy⟩ : ∃ y, (swapN l a b k)[b + k]? = some y := ⟨(swapN l a b k)[b + k]'(by omega), by simp [show b + k < (swapN l a b k).length by omega]⟩
      obtain ⟨x0, x1, xz, xz', _⟩ := hown.at hx
      obtain ⟨y0, y1, yz, yz', _⟩ := hown.at hy
      have HS := hown.swap hx hy
      have HK := hkb.trans (swap_kept wr g (a + k) (b + k) x y)
      have HS := hide HS; have HK := hide HK
      have f1 : (0 : Int) ≤ (a : Int) + k ∧ (a : Int) + k < (m : Int) ∧ (0 : Int) ≤ (b : Int) + k ∧ (b : Int) + k < (m : Int) := by omega
      obtain ⟨f1, f2, f3, f4⟩ := f1
      have f5 : IntKind.i64.wrap ((a : Int) + k) = (a : Int) + k := IntWalk.i64_in _ (by omega)
      have f6 : IntKind.i64.wrap ((b : Int) + k) = (b : Int) + k := IntWalk.i64_in _ (by omega)
      have f7 : ((a : Int) + k).toNat = a + k := by omega
      have f8 : ((b : Int) + k).toNat = b + k := by omega
      clear hown hkb hx hy hl
      go_wp2
      go_region
      all_goals
        clear f5 f6 f7 f8
        go_wp2
        go_roundw
        case rel => exact ⟨k+1, by omega, by go_num, HK.out.drew, HS.out.drew⟩
        case measure => simp [intOf]; omega
    · go_wp2
      go_end0
      exact ⟨rfl, hkb, by rw [show n = k by omega]; exact hown⟩

theorem sink_lo {l : List Pr} {lo j : Nat} (h : j ≤ lo) : sink l lo j = l := by
  cases j with
  | zero => rfl
  | succ j =>
    unfold sink
    split
    · rw [if_neg (fun h' => by omega)]
    · rfl
theorem sink_stop {l : List Pr} {lo j : Nat} {x y : Pr} (hx : l[j + 1]? = some x) (hy : l[j]? = some y) (h : klt x y = false) : sink l lo (j + 1) = l := by
  unfold sink; rw [hx, hy]
  show (if _ then _ else _) = _
  rw [if_neg (fun h' => by rw [h] at h'; cases h'.2)]
theorem sink_go {l : List Pr} {lo j : Nat} {x y : Pr} (hx : l[j + 1]? = some x) (hy : l[j]? = some y) (hlo : lo < j + 1) (h : klt x y = true) : sink l lo (j + 1) = sink (swapAt l (j + 1) j) lo j := by
  conv => lhs; unfold sink
  rw [hx, hy]
  show (if _ then _ else _) = _
  rw [if_pos ⟨hlo, h⟩]
theorem get_some {l : List Pr} {i : Nat} (h : i < l.length) : ∃ x, l[i]? = some x := ⟨l[i], List.getElem?_eq_getElem h⟩
abbrev cmpV : Value := .func (.func 104) #[] #[]
set_option maxHeartbeats 2000000 in
theorem insertion_any (a b m cap g : Nat) (l : List Pr) {w : World} {base : Nat} (h : OwnP w base g m cap l) (hm : m ≤ 1000000000) (hab : a ≤ b) (hb : b ≤ m) :
    Calls Tryz.prog 144 #[.slice (some ⟨g, 0, none⟩) m cap, .int .i64 a, .int .i64 b, .func (.func 104) #[] #[]] w fun e w' => e = .returned (.tuple #[]) ∧ KeptBut (fun q => q = g) w w' ∧ OwnP w' base g m cap (sortSeg l a b) := by
  have hlen := hide h.len
  have H := hide h; clear h
  go_enter Tryz.func144, Tryz.ntmps144
  go_wp2
  go_loopw [8] (fun i wr => ∃ k : Nat, (a + 1 + k ≤ b ∨ k = 0) ∧ i = .int .i64 ((a : Int) + 1 + k) ∧ KeptBut (fun q => q = g) w wr ∧ OwnP wr base g m cap (insTo l a k)) (fun i _ => b + 1 - (intOf i).toNat)
  case atStart => exact ⟨0, .inr rfl, by go_num, KeptBut.refl _ _, H.out⟩
  case round =>
    obtain ⟨k, hk, rfl, hkb, hown⟩ := hrel
    by_cases hlt : a + 1 + k < b
    · have hl := insTo_len l a k
      rw [← hlen.out] at hl
      have hR : Hid (sink (insTo l a k) a (a + 1 + k) = insTo l a (k + 1)) := rfl
      have HL := hide hl
      generalize insTo l a k = cur0 at *
      generalize hRe : insTo l a (k + 1) = R at *
      have HRe := hide hRe
      clear hl hRe
      obtain ⟨wo, hwo⟩ : ∃ wo : World, wo = wr := ⟨wr, rfl⟩
      subst hwo
      have HKB := hide hkb
      have HOWN := hide hown
      clear hkb hown
      have f0 : decide ((a : Int) + 1 + k < (b : Int)) = true := by simp; omega
      go_wp2
      clear f0
      go_loopw [9] (fun i wr => ∃ j : Nat, ∃ cur, j < m ∧ i = .int .i64 j ∧ Hid (sink cur a j = R) ∧ Hid (cur.length = m) ∧ KeptBut (fun q => q = g) w wr ∧ OwnP wr base g m cap cur) (fun i _ => (intOf i).toNat)
      case atStart => exact ⟨a + 1 + k, cur0, by omega, by go_num, hR, HL, HKB.out, HOWN.out⟩
      case round =>
        obtain ⟨j, cur, hj, rfl, hS, hC, hkb, hown⟩ := hrel
        by_cases hja : a < j
        · obtain ⟨j', rfl⟩ : ∃ j', j = j' + 1 := ⟨j - 1, by omega⟩
          obtain ⟨x, hx⟩ := get_some (l := cur) (i := j' + 1) (by rw [hC.out]; omega)
          obtain ⟨y, hy⟩ := get_some (l := cur) (i := j') (by rw [hC.out]; omega)
          obtain ⟨x0, x1, xz, xz', _⟩ := hown.at hx
          obtain ⟨y0, y1, yz, yz', _⟩ := hown.at hy
          have HX := hide hx
          have HY := hide hy
          have HOW := hide hown
          have HKB2 := hide hkb
          clear hx hy hown hkb
          have f1 : (0 : Int) ≤ (j' : Int) + 1 ∧ (j' : Int) + 1 < (m : Int) ∧ (0 : Int) ≤ (j' : Int) ∧ (j' : Int) < (m : Int) := by omega
          obtain ⟨f1, f2, f3, f4⟩ := f1
          have f5 : decide ((a : Int) < (j' : Int) + 1) = true := by simp; omega
          have f6 : IntKind.i64.wrap (j' : Int) = (j' : Int) := IntWalk.i64_in _ (by omega)
          have f7 : ((j' : Int) + 1).toNat = j' + 1 := by omega
          have f8 := cmpI_neg x y
          have hsk : Hid (klt x y = true → sink (swapAt cur (j' + 1) j') a j' = R) := fun hk => by rw [← sink_go HX.out HY.out hja hk]; exact hS.out
          have hss : Hid (klt x y = false → cur = R) := fun hk => by rw [← hS.out, sink_stop HX.out HY.out hk]
          cases hk2 : klt x y
          · rw [hk2] at f8
            have HE := hide (hss.out hk2)
            clear hk2 hsk hss
            go_wp2
            go_region_held3 (fun w' => w'.cell? ⟨g, (j' + 1) * 2, none⟩ = some (.string x.1) ∧ w'.cell? ⟨g, (j' + 1) * 2 + 1, none⟩ = some (.int .i64 x.2) ∧ w'.cell? ⟨g, j' * 2, none⟩ = some (.string y.1) ∧ w'.cell? ⟨g, j' * 2 + 1, none⟩ = some (.int .i64 y.2) ∧ Below wr.heap.size wr w')
              (first | (go_split_ands; exact ⟨by simpa using x0, by simpa using x1, by simpa using y0, by simpa using y1, (Below.refl _ _).drew⟩) | (go_split_ands; exact ⟨cell_later hb1 (by assumption), cell_later hb1 (by assumption), cell_later hb1 (by assumption), cell_later hb1 (by assumption), Below.trans (by assumption) (hb1.mono (Below.size (by assumption)))⟩))
              ((go_at_call 104; refine (sortCmp x y _).mono ?_; rintro e w1 ⟨rfl, hb1⟩))
            all_goals
              have hbl : Below wr.heap.size wr w1 := And.right (And.right (And.right (And.right (by assumption))))
              have ho1 := HOW.out.later hbl
              have hk1 := HKB2.out.trans (KeptBut.of_below (S := fun q => q = g) hbl (Nat.le_refl _))
              have HE1 := HE.out
              subst HE1
              clear f5 f6 f7 f8 hS
              go_wp2
              go_roundw
              case rel => exact ⟨k+1, by omega, by go_num, hk1, by rw [HRe.out]; exact ho1⟩
              case measure => simp [intOf]; omega
          · rw [hk2] at f8
            have HE := hide (hsk.out hk2)
            clear hk2 hsk hss
            go_wp2
            go_region_held3 (fun w' => w'.cell? ⟨g, (j' + 1) * 2, none⟩ = some (.string x.1) ∧ w'.cell? ⟨g, (j' + 1) * 2 + 1, none⟩ = some (.int .i64 x.2) ∧ w'.cell? ⟨g, j' * 2, none⟩ = some (.string y.1) ∧ w'.cell? ⟨g, j' * 2 + 1, none⟩ = some (.int .i64 y.2) ∧ Below wr.heap.size wr w')
              (first | (go_split_ands; exact ⟨by simpa using x0, by simpa using x1, by simpa using y0, by simpa using y1, (Below.refl _ _).drew⟩) | (go_split_ands; exact ⟨cell_later hb1 (by assumption), cell_later hb1 (by assumption), cell_later hb1 (by assumption), cell_later hb1 (by assumption), Below.trans (by assumption) (hb1.mono (Below.size (by assumption)))⟩))
              ((go_at_call 104; refine (sortCmp x y _).mono ?_; rintro e w1 ⟨rfl, hb1⟩))
            all_goals
              have hbl : Below wr.heap.size wr w1 := And.right (And.right (And.right (And.right (by assumption))))
              have ho1 := HOW.out.later hbl
              have hk1 := HKB2.out.trans (KeptBut.of_below (S := fun q => q = g) hbl (Nat.le_refl _))
              obtain ⟨p0, p1, pz, pz', _⟩ := OwnP.at ho1 HX.out
              obtain ⟨q0, q1, qz, qz', _⟩ := OwnP.at ho1 HY.out
              have HS := hide (OwnP.swap ho1 HX.out HY.out)
              have HK := hide (hk1.trans (swap_kept w1 g (j' + 1) j' x y))
              have HCL := hide (show (swapAt cur (j' + 1) j').length = m by rw [swapAt_len]; exact hC.out)
              clear ho1 hk1 hbl x0 x1 y0 y1 xz xz' yz yz' f8
              go_wp2
              go_region
              all_goals
                clear f5 f6 f7
                go_wp2
                go_roundw
                case rel => exact ⟨j', _, by omega, by go_num, HE, HCL, HK.out.drew, HS.out.drew⟩
                case measure => (simp [intOf]; try omega)
        · have f5 : decide ((a : Int) < (j : Int)) = false := by simp; omega
          have f5' : decide (a < j) = false := by simp; omega
          have HE : Hid (cur = R) := by show cur = R; rw [← hS.out, sink_lo (by omega)]
          go_wp2
          go_quiet (fail)
          have HE1 := HE.out
          subst HE1
          clear hS
          go_wp2
          go_roundw
          case rel => exact ⟨k+1, by omega, by go_num, hkb.drewN _, by rw [HRe.out]; exact hown.drewN _⟩
          case measure => simp [intOf]; omega
    · go_wp2
      go_end0
      refine ⟨rfl, hkb, ?_⟩
      rcases hk with hk | rfl
      · rw [show b = a + 1 + k by omega, ← insTo_at l a k (by rw [← hlen.out]; omega)]; exact hown
      · rw [sortSeg_small l (by omega) hab (by rw [← hlen.out]; omega)]; exact hown
end Go.Proofs.YtgeedjlbajmdkaaGreatDoor
/- Plain laws of a merge: the first list whose head is least. -/
namespace Go.Proofs.YtgeedjlbajmdkaaGreatDoor
open Go.RowKit

theorem srt_min {A B : List Pr} {x : Pr} (ha : ∀ y ∈ A, klt x y = true) (hb : ∀ y ∈ B, klt y x = false) : srt (A ++ x :: B) = x :: srt (A ++ B) := by
  symm
  refine srt_of ?_ ?_
  · refine List.pairwise_cons.2 ⟨fun y hy => ?_, srt_rise _⟩
    rcases List.mem_append.1 (mem_srt.1 hy) with h | h
    · exact klt_asymm (ha y h)
    · exact hb y h
  · have h1 : SameK (x :: srt (A ++ B)) (x :: (A ++ B)) := SameK.append (a := [x]) (b := [x]) (SameK.refl _) (srt_same _)
    refine h1.trans fun k => ?_
    by_cases hk : isK k x = true
    · have hn : A.filter (isK k) = [] := by
        rw [List.filter_eq_nil_iff]
        intro y hy e
        have h2 := klt_ne (ha y hy)
        unfold isK at hk e
        rw [beq_iff_eq] at hk e
        exact h2 (hk.trans e.symm)
      rw [List.filter_cons_of_pos hk, List.filter_append, List.filter_append, List.filter_cons_of_pos hk, hn]; rfl
    · rw [List.filter_cons_of_neg hk, List.filter_append, List.filter_append, List.filter_cons_of_neg hk]

def Best (R : List (List Pr)) (k : Nat) (b : Int) : Prop :=
  (b = -1 ∧ ∀ j l, j < k → R[j]? = some l → l = []) ∨ ∃ m x t, b = ((m : Nat) : Int) ∧ m < k ∧ R[m]? = some (x :: t) ∧ (∀ j y t', j < m → R[j]? = some (y :: t') → klt x y = true) ∧ ∀ j y t', m < j → j < k → R[j]? = some (y :: t') → klt y x = false
theorem Best.zero (R : List (List Pr)) : Best R 0 (-1) := .inl ⟨rfl, fun j l h => by omega⟩
theorem Best.range {R : List (List Pr)} {k : Nat} {b : Int} (h : Best R k b) : -1 ≤ b ∧ b < (k : Int) := by
  rcases h with ⟨h, _⟩ | ⟨m, x, t, h, h2, _⟩ <;> omega
theorem Best.skip {R : List (List Pr)} {k : Nat} {b : Int} (h : Best R k b) (hk : R[k]? = some []) : Best R (k + 1) b := by
  rcases h with ⟨h, h1⟩ | ⟨m, x, t, h, h2, h3, h4, h5⟩
  · refine .inl ⟨h, fun j l hj hl => ?_⟩
    by_cases e : j = k
    · subst e; rw [hk] at hl; cases hl; rfl
    · exact h1 j l (by omega) hl
  · refine .inr ⟨m, x, t, h, by omega, h3, h4, fun j y t' hm hj hl => ?_⟩
    by_cases e : j = k
    · subst e; rw [hk] at hl; cases hl
    · exact h5 j y t' hm (by omega) hl
theorem Best.first {R : List (List Pr)} {k : Nat} {x : Pr} {t : List Pr} (h : Best R k (-1)) (hk : R[k]? = some (x :: t)) : Best R (k + 1) k := by
  rcases h with ⟨h, h1⟩ | ⟨m, x, t, h, h2, h3, h4, h5⟩
  · refine .inr ⟨k, x, t, rfl, by omega, hk, fun j y t' hj hl => ?_, fun j y t' hm hj hl => by omega⟩
    cases h1 j _ hj hl
  · omega
theorem Best.better {R : List (List Pr)} {k m : Nat} {x y : Pr} {t t' : List Pr} (h : Best R k m) (hm : R[m]? = some (x :: t)) (hk : R[k]? = some (y :: t')) (hy : klt y x = true) : Best R (k + 1) k := by
  rcases h with ⟨h, h1⟩ | ⟨m', x', t1, h, h2, h3, h4, h5⟩
  · omega
  · obtain rfl : m = m' := by omega
    rw [hm] at h3; cases h3
    refine .inr ⟨k, y, t', rfl, by omega, hk, fun j z t2 hj hl => ?_, fun j y t' hm hj hl => by omega⟩
    by_cases e : j = m
    · subst e; rw [hm] at hl; cases hl; exact hy
    · by_cases e2 : j < m
      · exact klt_trans hy (h4 j z t2 e2 hl)
      · exact klt_kle hy (h5 j z t2 (by omega) hj hl)
theorem Best.keep {R : List (List Pr)} {k m : Nat} {x y : Pr} {t t' : List Pr} (h : Best R k m) (hm : R[m]? = some (x :: t)) (hk : R[k]? = some (y :: t')) (hy : klt y x = false) : Best R (k + 1) m := by
  rcases h with ⟨h, h1⟩ | ⟨m', x', t1, h, h2, h3, h4, h5⟩
  · omega
  · obtain rfl : m = m' := by omega
    rw [hm] at h3; cases h3
    refine .inr ⟨m, x, t, rfl, by omega, hm, h4, fun j z t2 hj hl he => ?_⟩
    by_cases e : j = k
    · subst e; rw [hk] at he; cases he; exact hy
    · exact h5 j z t2 hj (by omega) he
theorem Best.no {R : List (List Pr)} (h : Best R R.length (-1)) : R.flatten = [] := by
  rcases h with ⟨h, h1⟩ | ⟨m, x, t, h, _⟩
  · rw [List.flatten_eq_nil_iff]
    intro l hl
    obtain ⟨j, hj⟩ := List.getElem?_of_mem hl
    exact h1 j l (List.getElem?_eq_some_iff.1 hj).1 hj
  · omega
theorem flatten_cut {R : List (List Pr)} {m : Nat} {l : List Pr} (h : R[m]? = some l) (l' : List Pr) : R.flatten = (R.take m).flatten ++ (l ++ (R.drop (m + 1)).flatten) ∧ (R.set m l').flatten = (R.take m).flatten ++ (l' ++ (R.drop (m + 1)).flatten) := by
  obtain ⟨hlt, hx⟩ := List.getElem?_eq_some_iff.1 h
  constructor
  · conv => lhs; rw [← List.take_append_drop m R, List.drop_eq_getElem_cons hlt, hx]
    rw [List.flatten_append, List.flatten_cons]
  · rw [List.set_eq_take_append_cons_drop, if_pos hlt, List.flatten_append, List.flatten_cons]
theorem Best.yes {R : List (List Pr)} {m : Nat} (h : Best R R.length m) (hr : ∀ l ∈ R, Rise l) : ∃ x t, R[m]? = some (x :: t) ∧ srt R.flatten = x :: srt (R.set m t).flatten := by
  rcases h with ⟨h, h1⟩ | ⟨m', x, t, h, h2, h3, h4, h5⟩
  · omega
  · obtain rfl : m = m' := by omega
    refine ⟨x, t, h3, ?_⟩
    obtain ⟨e1, e2⟩ := flatten_cut h3 t
    rw [e1, e2]
    have hx := hr _ (List.mem_of_getElem? h3)
    have hxt := (List.pairwise_cons.1 hx).1
    refine srt_min (fun y hy => ?_) (fun y hy => ?_)
    · obtain ⟨l, hl, hyl⟩ := List.mem_flatten.1 hy
      obtain ⟨j, hj⟩ := List.getElem?_of_mem hl
      have hjm : j < m := by have := (List.getElem?_eq_some_iff.1 hj).1; rw [List.length_take] at this; omega
      rw [List.getElem?_take_of_lt hjm] at hj
      match l, hj, hyl with
      | z :: t2, hj, hyl =>
        have hz := h4 j z t2 hjm hj
        rcases List.mem_cons.1 hyl with e | e
        · rw [e]; exact hz
        · exact klt_kle hz ((List.pairwise_cons.1 (hr _ (List.mem_of_getElem? hj))).1 y e)
    · rcases List.mem_append.1 hy with h | hy
      · exact hxt y h
      · obtain ⟨l, hl, hyl⟩ := List.mem_flatten.1 hy
        obtain ⟨j, hj⟩ := List.getElem?_of_mem hl
        rw [List.getElem?_drop] at hj
        have hlt := (List.getElem?_eq_some_iff.1 hj).1
        match l, hj, hyl with
        | z :: t2, hj, hyl =>
          have hz := h5 (m + 1 + j) z t2 (by omega) hlt hj
          rcases List.mem_cons.1 hyl with e | e
          · rw [e]; exact hz
          · exact kle_trans hz ((List.pairwise_cons.1 (hr _ (List.mem_of_getElem? hj))).1 y e)

theorem Best.head {R : List (List Pr)} {k m : Nat} (h : Best R k m) : ∃ x t, R[m]? = some (x :: t) := by
  rcases h with ⟨h, h1⟩ | ⟨m', x, t, h, h2, h3, h4, h5⟩
  · omega
  · obtain rfl : m = m' := by omega
    exact ⟨x, t, h3⟩
/-- what is left of the lists -/
def left (A : List Nat) (L : List (List Pr)) : List (List Pr) := List.zipWith (fun a l => l.drop a) A L
theorem left_len {A : List Nat} {L : List (List Pr)} (h : A.length = L.length) : (left A L).length = L.length := by unfold left; rw [List.length_zipWith]; omega
theorem left_get {A : List Nat} {L : List (List Pr)} {i a : Nat} {l : List Pr} (ha : A[i]? = some a) (hl : L[i]? = some l) : (left A L)[i]? = some (l.drop a) := by
  unfold left; rw [List.getElem?_zipWith, ha, hl]
theorem left_at {A : List Nat} {L : List (List Pr)} {i a : Nat} {l : List Pr} {p : Pr} (ha : A[i]? = some a) (hl : L[i]? = some l) (hp : l[a]? = some p) : (left A L)[i]? = some (p :: l.drop (a + 1)) := by
  rw [left_get ha hl]
  obtain ⟨hlt, hx⟩ := List.getElem?_eq_some_iff.1 hp
  rw [List.drop_eq_getElem_cons hlt, hx]
theorem left_end {A : List Nat} {L : List (List Pr)} {i a : Nat} {l : List Pr} (ha : A[i]? = some a) (hl : L[i]? = some l) (hp : l.length ≤ a) : (left A L)[i]? = some [] := by
  rw [left_get ha hl, List.drop_eq_nil_of_le hp]
theorem left_set {A : List Nat} {L : List (List Pr)} {i a : Nat} {l t : List Pr} {p : Pr} (ha : A[i]? = some a) (hl : L[i]? = some l) (hp : (left A L)[i]? = some (p :: t)) : left (A.set i (a + 1)) L = (left A L).set i t := by
  rw [left_get ha hl] at hp
  have hd : l.drop (a + 1) = t := by
    have := congrArg (List.drop 1) (Option.some.inj hp)
    rw [List.drop_drop] at this
    simpa using this
  apply List.ext_getElem?
  intro j
  by_cases e : i = j
  · subst e
    have hi := (List.getElem?_eq_some_iff.1 ha).1
    have hi2 := (List.getElem?_eq_some_iff.1 hl).1
    rw [left_get (List.getElem?_set_self hi) hl, List.getElem?_set_self (by unfold left; rw [List.length_zipWith]; omega), hd]
  · rw [List.getElem?_set_ne e]
    unfold left
    rw [List.getElem?_zipWith, List.getElem?_zipWith, List.getElem?_set_ne e]
theorem left_lt {A : List Nat} {L : List (List Pr)} {i a : Nat} {l t : List Pr} {p : Pr} (ha : A[i]? = some a) (hl : L[i]? = some l) (hp : (left A L)[i]? = some (p :: t)) : a < l.length := by
  rw [left_get ha hl] at hp
  have := congrArg List.length (Option.some.inj hp)
  rw [List.length_drop, List.length_cons] at this
  omega
theorem left_zero (L : List (List Pr)) : left (List.replicate L.length 0) L = L := by
  apply List.ext_getElem?
  intro j
  by_cases h : j < L.length
  · have h1 : L[j]? = some L[j] := List.getElem?_eq_getElem h
    rw [left_get (a := 0) (by simp [h]) h1, h1]; rfl
  · rw [List.getElem?_eq_none (by rw [left_len (by simp)]; omega), List.getElem?_eq_none (by omega)]
theorem left_rise {A : List Nat} {L : List (List Pr)} (h : ∀ l ∈ L, Rise l) : ∀ l ∈ left A L, Rise l := by
  intro l hl
  obtain ⟨j, hj⟩ := List.getElem?_of_mem hl
  unfold left at hj
  rw [List.getElem?_zipWith] at hj
  cases ha : A[j]? with
  | none => rw [ha] at hj; cases hj
  | some a =>
    cases hb : L[j]? with
    | none => rw [ha, hb] at hj; cases hj
    | some b =>
      rw [ha, hb] at hj
      cases hj
      exact (h b (List.mem_of_getElem? hb)).sub (List.drop_sublist _ _)
end Go.Proofs.YtgeedjlbajmdkaaGreatDoor
/- Plain laws of groups: in whichever groups values are folded, they are the same. -/
namespace Go.Proofs.YtgeedjlbajmdkaaGreatDoor
open Go.RowKit

theorem wrap64_eq (n : Int) : ∃ q : Int, wrap64 n = n - q * 18446744073709551616 := by
  refine ⟨(n + 9223372036854775808) / 18446744073709551616, ?_⟩
  unfold wrap64
  omega
theorem wrap64_of {m n q : Int} (h : m = n - q * 18446744073709551616) : wrap64 m = wrap64 n := by
  unfold wrap64
  omega
theorem two_comm (k a b : Int) : two k a b = two k b a := by
  unfold two
  rw [Int.add_comm a b, Int.min_comm, Int.max_comm]
theorem two_assoc (k a b c : Int) : two k a (two k b c) = two k (two k a b) c := by
  unfold two
  by_cases h : k = 2
  · simp only [h, if_true]; omega
  · by_cases h3 : k = 3
    · simp only [h, h3, if_true, if_false]; omega
    · simp only [h, h3, if_false]
      obtain ⟨q1, e1⟩ := wrap64_eq (b + c)
      obtain ⟨q2, e2⟩ := wrap64_eq (a + b)
      rw [e1, e2]
      refine wrap64_of (q := q1 - q2) ?_
      omega
/-- no two neighbours of one key -/
def Apart (l : List Pr) : Prop := ∀ (A B : List Pr) p q, l = A ++ p :: q :: B → p.1 ≠ q.1
theorem gstep_nil (k : Int) (p : Pr) : gstep k [] p = [p] := rfl
theorem gstep_same {k : Int} {S : List Pr} {q p : Pr} (h : q.1 = p.1) : gstep k (S ++ [q]) p = S ++ [(q.1, two k q.2 p.2)] := by
  unfold gstep
  rw [List.getLast?_concat]
  simp [h]
theorem gstep_other {k : Int} {S : List Pr} {q p : Pr} (h : q.1 ≠ p.1) : gstep k (S ++ [q]) p = S ++ [q] ++ [p] := by
  unfold gstep
  rw [List.getLast?_concat]
  simp [h]
theorem list_end {α : Type} (l : List α) : l = [] ∨ ∃ S q, l = S ++ [q] := by
  rcases List.eq_nil_or_concat l with h | ⟨S, q, h⟩
  · exact .inl h
  · exact .inr ⟨S, q, by simpa using h⟩
theorem groups_snoc (k : Int) (l : List Pr) (p : Pr) : groups k (l ++ [p]) = gstep k (groups k l) p := by unfold groups; rw [List.foldl_append]; rfl
theorem gstep_two (k : Int) (S : List Pr) {q p : Pr} (h : q.1 = p.1) : gstep k (gstep k S q) p = gstep k S (q.1, two k q.2 p.2) := by
  rcases list_end S with rfl | ⟨S, r, rfl⟩
  · rw [gstep_nil, gstep_nil]
    exact gstep_same (S := []) h
  · by_cases e : r.1 = q.1
    · rw [gstep_same e, gstep_same (q := (r.1, two k r.2 q.2)) (e.trans h), gstep_same (p := (q.1, two k q.2 p.2)) e]
      simp only [two_assoc]
    · rw [gstep_other e, gstep_other (p := (q.1, two k q.2 p.2)) e, gstep_same h]
theorem rev_ind2 {α : Type} {P : List α → Prop} (h0 : P []) (hs : ∀ l x, P l → P (l ++ [x])) (l : List α) : P l := by
  rw [← List.reverse_reverse l]
  induction l.reverse with
  | nil => exact h0
  | cons a t ih => rw [List.reverse_cons]; exact hs _ _ ih
theorem fold_groups (k : Int) (o B : List Pr) : (groups k B).foldl (gstep k) o = B.foldl (gstep k) o := by
  induction B using rev_ind2 with
  | h0 => rfl
  | hs B p ih =>
    rw [groups_snoc, List.foldl_append]
    rcases list_end (groups k B) with e | ⟨G, q, e⟩
    · rw [e] at ih
      rw [e, gstep_nil, ← ih]; rfl
    · rw [e] at ih
      rw [List.foldl_append] at ih
      rw [e, ← ih]
      by_cases h : q.1 = p.1
      · rw [gstep_same h, List.foldl_append]
        exact (gstep_two k _ h).symm
      · rw [gstep_other h, List.foldl_append, List.foldl_append]
theorem groups_groups (k : Int) (l : List Pr) : groups k (groups k l) = groups k l := fold_groups k [] l
theorem groups_parts (k : Int) (A B : List Pr) : groups k (groups k A ++ groups k B) = groups k (A ++ B) := by
  show (groups k A ++ groups k B).foldl (gstep k) [] = (A ++ B).foldl (gstep k) []
  rw [List.foldl_append, List.foldl_append, fold_groups k [] A, fold_groups]
end Go.Proofs.YtgeedjlbajmdkaaGreatDoor
/- Groups of pairs that rise: their keys rise, none is there twice, none is lost. -/
namespace Go.Proofs.YtgeedjlbajmdkaaGreatDoor
open Go.RowKit

theorem klt_key {a b c d : Pr} (h1 : a.1 = c.1) (h2 : b.1 = d.1) : klt a b = klt c d := by unfold klt; rw [h1, h2]
theorem mem_gstep {k : Int} {out : List Pr} {p q : Pr} (h : q ∈ gstep k out p) : (∃ x ∈ out, q.1 = x.1) ∨ q.1 = p.1 := by
  rcases list_end out with rfl | ⟨S, r, rfl⟩
  · rw [gstep_nil] at h
    right; rw [List.mem_singleton.1 h]
  · by_cases e : r.1 = p.1
    · rw [gstep_same e] at h
      rcases List.mem_append.1 h with h | h
      · exact .inl ⟨q, List.mem_append_left _ h, rfl⟩
      · exact .inl ⟨r, by simp, by rw [List.mem_singleton.1 h]⟩
    · rw [gstep_other e] at h
      rcases List.mem_append.1 h with h | h
      · exact .inl ⟨q, h, rfl⟩
      · right; rw [List.mem_singleton.1 h]
theorem gstep_mem {k : Int} {out : List Pr} {p x : Pr} (h : x ∈ out ∨ x = p) : ∃ q ∈ gstep k out p, q.1 = x.1 := by
  rcases list_end out with rfl | ⟨S, r, rfl⟩
  · rw [gstep_nil]
    rcases h with h | h
    · cases h
    · exact ⟨p, by simp, by rw [h]⟩
  · by_cases e : r.1 = p.1
    · rw [gstep_same e]
      rcases h with h | h
      · rcases List.mem_append.1 h with h | h
        · exact ⟨x, List.mem_append_left _ h, rfl⟩
        · exact ⟨(r.1, two k r.2 p.2), by simp, by rw [List.mem_singleton.1 h]⟩
      · exact ⟨(r.1, two k r.2 p.2), by simp, by rw [h]; exact e⟩
    · rw [gstep_other e]
      rcases h with h | h
      · exact ⟨x, List.mem_append_left _ h, rfl⟩
      · exact ⟨p, by simp, by rw [h]⟩
theorem groups_of (k : Int) : ∀ (l : List Pr), ∀ q ∈ groups k l, ∃ p ∈ l, q.1 = p.1 := by
  intro l
  induction l using rev_ind2 with
  | h0 => intro q h; simp [groups] at h
  | hs l p ih =>
    intro q h
    rw [groups_snoc] at h
    rcases mem_gstep h with ⟨x, hx, e⟩ | e
    · obtain ⟨y, hy, e2⟩ := ih x hx
      exact ⟨y, List.mem_append_left _ hy, e.trans e2⟩
    · exact ⟨p, by simp, e⟩
/-- none is lost -/
theorem groups_has (k : Int) : ∀ (l : List Pr), ∀ p ∈ l, ∃ q ∈ groups k l, q.1 = p.1 := by
  intro l
  induction l using rev_ind2 with
  | h0 => intro q h; cases h
  | hs l p ih =>
    intro x h
    rw [groups_snoc]
    rcases List.mem_append.1 h with h | h
    · obtain ⟨y, hy, e⟩ := ih x h
      obtain ⟨z, hz, e2⟩ := gstep_mem (k := k) (p := p) (.inl hy)
      exact ⟨z, hz, e2.trans e⟩
    · exact gstep_mem (.inr (List.mem_singleton.1 h))
/-- they rise -/
theorem groups_incr (k : Int) : ∀ (l : List Pr), Rise l → (groups k l).Pairwise fun a b => klt a b = true := by
  intro l
  induction l using rev_ind2 with
  | h0 => intro _; simp [groups]
  | hs l p ih =>
    intro h
    obtain ⟨h1, _, h2⟩ := Rise.append.1 h
    have h3 := ih h1
    have h4 := groups_of k l
    rw [groups_snoc]
    rcases list_end (groups k l) with e | ⟨S, q, e⟩
    · rw [e, gstep_nil]; simp
    · rw [e] at h3 h4 ⊢
      obtain ⟨p1, _, p3⟩ := List.pairwise_append.1 h3
      by_cases he : q.1 = p.1
      · rw [gstep_same he]
        refine List.pairwise_append.2 ⟨p1, by simp, fun a ha b hb => ?_⟩
        obtain rfl := List.mem_singleton.1 hb
        rw [klt_key (a := a) (b := (q.1, two k q.2 p.2)) (c := a) (d := q) rfl rfl]
        exact p3 a ha q (by simp)
      · rw [gstep_other he]
        have hq : klt q p = true := by
          obtain ⟨y, hy, ey⟩ := h4 q (by simp)
          have h5 := h2 y hy p (by simp)
          rw [← klt_key (a := p) (b := q) rfl ey] at h5
          rcases bl_tri q.1.toList p.1.toList with h6 | h6 | h6
          · exact h6
          · exact absurd (tl_inj h6) he
          · unfold klt at h5; rw [h6] at h5; cases h5
        refine List.pairwise_append.2 ⟨h3, by simp, fun a ha b hb => ?_⟩
        obtain rfl := List.mem_singleton.1 hb
        rcases List.mem_append.1 ha with ha | ha
        · exact klt_trans (p3 a ha q (by simp)) hq
        · rw [List.mem_singleton.1 ha]; exact hq
end Go.Proofs.YtgeedjlbajmdkaaGreatDoor
/- Groups of sorted pairs: in whichever order, and in whichever groups, they are the same. -/
namespace Go.Proofs.YtgeedjlbajmdkaaGreatDoor
open Go.RowKit

/-- pairs that are sorted, then folded -/
def grp (k : Int) (l : List Pr) : List Pr := groups k (srt l)
/-- one pair more, put where it belongs -/
def insG (k : Int) (x : Pr) : List Pr → List Pr
  | [] => [x]
  | a :: l => if klt a x = true then a :: insG k x l else if a.1 = x.1 then (a.1, two k a.2 x.2) :: l else x :: a :: l
def Incr (l : List Pr) : Prop := l.Pairwise fun a b => klt a b = true
theorem Incr.tail {a : Pr} {l : List Pr} (h : Incr (a :: l)) : Incr l := (List.pairwise_cons.1 h).2
theorem Incr.head {a : Pr} {l : List Pr} (h : Incr (a :: l)) : ∀ b ∈ l, klt a b = true := (List.pairwise_cons.1 h).1
theorem klt_self {a b : Pr} (h : a.1 = b.1) : klt a b = false := by unfold klt; rw [h]; exact bl_irrefl _
theorem klt_or {a b : Pr} : klt a b = true ∨ a.1 = b.1 ∨ klt b a = true := by
  rcases bl_tri a.1.toList b.1.toList with h | h | h
  · exact .inl h
  · exact .inr (.inl (tl_inj h))
  · exact .inr (.inr h)
theorem insG_nil (k : Int) (x : Pr) : insG k x [] = [x] := by unfold insG; rfl
theorem insG_lt {k : Int} {x a : Pr} {l : List Pr} (h : klt a x = true) : insG k x (a :: l) = a :: insG k x l := by conv => lhs; unfold insG; rw [if_pos h]
theorem insG_eq {k : Int} {x a : Pr} {l : List Pr} (h : a.1 = x.1) : insG k x (a :: l) = (a.1, two k a.2 x.2) :: l := by
  conv => lhs; unfold insG; rw [if_neg (by rw [klt_self h]; decide), if_pos h]
theorem insG_gt {k : Int} {x a : Pr} {l : List Pr} (h : klt x a = true) : insG k x (a :: l) = x :: a :: l := by
  conv => lhs; unfold insG; rw [if_neg (by rw [klt_asymm h]; decide), if_neg (fun e => by rw [klt_self e.symm] at h; cases h)]
/-- a pair of another value, but the same key, goes to the same place -/
theorem mem_insG {k : Int} {x y : Pr} : ∀ {l : List Pr}, y ∈ insG k x l → y.1 = x.1 ∨ ∃ z ∈ l, y.1 = z.1
  | [], h => by rw [insG_nil] at h; left; rw [List.mem_singleton.1 h]
  | a :: l, h => by
    rcases klt_or (a := a) (b := x) with e | e | e
    · rw [insG_lt e] at h
      rcases List.mem_cons.1 h with h | h
      · exact .inr ⟨a, List.mem_cons_self, by rw [h]⟩
      · rcases mem_insG h with h | ⟨z, hz, h⟩
        · exact .inl h
        · exact .inr ⟨z, List.mem_cons_of_mem _ hz, h⟩
    · rw [insG_eq e] at h
      rcases List.mem_cons.1 h with h | h
      · exact .inr ⟨a, List.mem_cons_self, by rw [h]⟩
      · exact .inr ⟨y, List.mem_cons_of_mem _ h, rfl⟩
    · rw [insG_gt e] at h
      rcases List.mem_cons.1 h with h | h
      · exact .inl (by rw [h])
      · exact .inr ⟨y, h, rfl⟩
theorem insG_incr {k : Int} {x : Pr} : ∀ {l : List Pr}, Incr l → Incr (insG k x l)
  | [], _ => by rw [insG_nil]; exact List.pairwise_singleton _ _
  | a :: l, h => by
    rcases klt_or (a := a) (b := x) with e | e | e
    · rw [insG_lt e]
      refine List.pairwise_cons.2 ⟨fun b hb => ?_, insG_incr h.tail⟩
      rcases mem_insG hb with h1 | ⟨z, hz, h1⟩
      · rw [klt_key (a := a) (b := b) (c := a) (d := x) rfl h1]; exact e
      · rw [klt_key (a := a) (b := b) (c := a) (d := z) rfl h1]; exact h.head z hz
    · rw [insG_eq e]
      refine List.pairwise_cons.2 ⟨fun b hb => ?_, h.tail⟩
      rw [klt_key (a := (a.1, two k a.2 x.2)) (b := b) (c := a) (d := b) rfl rfl]
      exact h.head b hb
    · rw [insG_gt e]
      refine List.pairwise_cons.2 ⟨fun b hb => ?_, h⟩
      rcases List.mem_cons.1 hb with h1 | h1
      · rw [h1]; exact e
      · exact klt_trans e (h.head b h1)
/-- in whichever order -/
theorem insG_comm (k : Int) (x y : Pr) : ∀ (l : List Pr), insG k x (insG k y l) = insG k y (insG k x l)
  | [] => by
    rw [insG_nil, insG_nil]
    rcases klt_or (a := x) (b := y) with e | e | e
    · rw [insG_gt e, insG_lt e, insG_nil]
    · rw [insG_eq e.symm, insG_eq e, two_comm, e]
    · rw [insG_lt e, insG_gt e, insG_nil]
  | a :: l => by
    have ih := insG_comm k x y l
    rcases klt_or (a := a) (b := x) with ex | ex | ex <;> rcases klt_or (a := a) (b := y) with ey | ey | ey
    · rw [insG_lt ey, insG_lt ex, insG_lt ex, insG_lt ey, ih]
    · rw [insG_eq ey, insG_lt ex, insG_eq ey]
      rw [insG_lt (a := (a.1, two k a.2 y.2)) (by rw [klt_key (a := (a.1, two k a.2 y.2)) (b := x) (c := a) (d := x) rfl rfl]; exact ex)]
    · rw [insG_gt ey, insG_lt ex, insG_gt ey]
      have hyx : klt y x = true := klt_trans ey ex
      rw [insG_lt hyx, insG_lt ex]
    · rw [insG_lt ey, insG_eq ex, insG_eq ex]
      rw [insG_lt (a := (a.1, two k a.2 x.2)) (by rw [klt_key (a := (a.1, two k a.2 x.2)) (b := y) (c := a) (d := y) rfl rfl]; exact ey)]
    · rw [insG_eq ey, insG_eq ex, insG_eq (a := (a.1, two k a.2 y.2)) ex, insG_eq (a := (a.1, two k a.2 x.2)) ey]
      dsimp only
      rw [← two_assoc, ← two_assoc, two_comm k y.2 x.2]
    · have hyx : klt y x = true := by rw [klt_key (a := y) (b := x) (c := y) (d := a) rfl ex.symm]; exact ey
      rw [insG_gt ey, insG_eq ex, insG_lt hyx, insG_eq ex]
      rw [insG_gt (a := (a.1, two k a.2 x.2)) (by rw [klt_key (a := y) (b := (a.1, two k a.2 x.2)) (c := y) (d := a) rfl rfl]; exact ey)]
    · have hxy : klt x y = true := klt_trans ex ey
      rw [insG_lt ey, insG_gt ex, insG_gt ex, insG_lt hxy, insG_lt ey]
    · have hxy : klt x y = true := by rw [klt_key (a := x) (b := y) (c := x) (d := a) rfl ey.symm]; exact ex
      rw [insG_eq ey, insG_gt ex, insG_lt hxy, insG_eq ey]
      rw [insG_gt (a := (a.1, two k a.2 y.2)) (by rw [klt_key (a := x) (b := (a.1, two k a.2 y.2)) (c := x) (d := a) rfl rfl]; exact ex)]
    · rcases klt_or (a := x) (b := y) with e | e | e
      · rw [insG_gt ey, insG_gt ex, insG_gt e, insG_lt e, insG_gt ey]
      · rw [insG_gt ey, insG_gt ex, insG_eq e.symm, insG_eq e, two_comm, e]
      · rw [insG_gt ey, insG_gt ex, insG_lt e, insG_gt ex, insG_gt e]
/-- the canonical form -/
def sumG (k : Int) (o l : List Pr) : List Pr := l.foldl (fun s x => insG k x s) o
theorem sumG_perm {k : Int} {l m : List Pr} (h : l.Perm m) : ∀ o, sumG k o l = sumG k o m := by
  induction h with
  | nil => intro o; rfl
  | cons x _ ih => intro o; exact ih _
  | swap x y l =>
    intro o
    show sumG k (insG k x (insG k y o)) l = sumG k (insG k y (insG k x o)) l
    rw [insG_comm]
  | trans _ _ ih1 ih2 => intro o; rw [ih1, ih2]
theorem sumG_append (k : Int) (o a b : List Pr) : sumG k o (a ++ b) = sumG k (sumG k o a) b := List.foldl_append ..
theorem sumG_incr {k : Int} : ∀ (l o : List Pr), Incr o → Incr (sumG k o l)
  | [], _, h => h
  | x :: l, _, h => sumG_incr l _ (insG_incr h)
theorem insG_end {k : Int} {x : Pr} : ∀ {l : List Pr}, (∀ a ∈ l, klt a x = true) → insG k x l = l ++ [x]
  | [], _ => by rw [insG_nil]; rfl
  | a :: l, h => by rw [insG_lt (h a List.mem_cons_self), insG_end fun b hb => h b (List.mem_cons_of_mem _ hb)]; rfl
theorem sumG_self {k : Int} : ∀ (l o : List Pr), Incr (o ++ l) → sumG k o l = o ++ l
  | [], o, _ => by rw [List.append_nil]; rfl
  | x :: l, o, h => by
    have h1 := (List.pairwise_append.1 h).2.2
    show sumG k (insG k x o) l = _
    rw [insG_end fun a ha => h1 a ha x List.mem_cons_self, sumG_self l (o ++ [x]) (by rw [List.append_assoc]; exact h), List.append_assoc]
    rfl
/-- a step at the end of what rises -/
theorem gstep_insG {k : Int} {x : Pr} {o : List Pr} (h : Incr o) (hx : ∀ a ∈ o, klt x a = false) : gstep k o x = insG k x o := by
  rcases list_end o with rfl | ⟨S, q, rfl⟩
  · rw [gstep_nil, insG_nil]
  · have hS : ∀ a ∈ S, klt a q = true := fun a ha => (List.pairwise_append.1 h).2.2 a ha q (List.mem_singleton.2 rfl)
    have hq := hx q (by simp)
    by_cases e : q.1 = x.1
    · rw [gstep_same e]
      have key : ∀ (S : List Pr), (∀ a ∈ S, klt a q = true) → insG k x (S ++ [q]) = S ++ [(q.1, two k q.2 x.2)] := by
        intro S
        induction S with
        | nil => intro _; exact insG_eq e
        | cons a S ih =>
          intro hS
          have ha : klt a x = true := by rw [klt_key (a := a) (b := x) (c := a) (d := q) rfl e.symm]; exact hS a List.mem_cons_self
          rw [List.cons_append, insG_lt ha, ih fun b hb => hS b (List.mem_cons_of_mem _ hb)]
          rfl
      rw [key S hS]
    · rw [gstep_other e]
      have hqx : klt q x = true := by
        rcases klt_or (a := q) (b := x) with h1 | h1 | h1
        · exact h1
        · exact absurd h1 e
        · rw [h1] at hq; cases hq
      rw [insG_end]
      intro a ha
      rcases List.mem_append.1 ha with ha | ha
      · exact klt_trans (hS a ha) hqx
      · rw [List.mem_singleton.1 ha]; exact hqx
theorem groups_sumG (k : Int) : ∀ (l : List Pr), Rise l → groups k l = sumG k [] l := by
  intro l
  induction l using rev_ind2 with
  | h0 => intro _; rfl
  | hs l p ih =>
    intro h
    obtain ⟨h1, _, h2⟩ := Rise.append.1 h
    rw [groups_snoc, sumG_append, ← ih h1]
    refine gstep_insG (groups_incr k l h1) fun a ha => ?_
    obtain ⟨y, hy, e⟩ := groups_of k l a ha
    rw [klt_key (a := p) (b := a) (c := p) (d := y) rfl e]
    exact h2 y hy p (by simp)
/-- in whichever order -/
theorem grp_eq (k : Int) (l : List Pr) : grp k l = sumG k [] l := by
  unfold grp
  rw [groups_sumG k _ (srt_rise l)]
  exact sumG_perm (srt_perm l) []
theorem grp_perm {k : Int} {l m : List Pr} (h : l.Perm m) : grp k l = grp k m := by rw [grp_eq, grp_eq]; exact sumG_perm h []
theorem grp_incr (k : Int) (l : List Pr) : Incr (grp k l) := by rw [grp_eq]; exact sumG_incr l [] List.Pairwise.nil
/-- in whichever groups -/
theorem grp_part (k : Int) (a b : List Pr) : grp k (grp k a ++ b) = grp k (a ++ b) := by
  rw [grp_eq, grp_eq k (a ++ b), sumG_append, sumG_append, sumG_self (grp k a) [] (grp_incr k a), grp_eq k a]
  rfl
theorem grp_parts (k : Int) (a b : List Pr) : grp k (grp k a ++ grp k b) = grp k (a ++ b) := by
  rw [grp_part, grp_perm List.perm_append_comm, grp_part, grp_perm List.perm_append_comm]
theorem grp_flat (k : Int) : ∀ (ls : List (List Pr)), grp k (ls.map (grp k)).flatten = grp k ls.flatten
  | [] => rfl
  | l :: ls => by
    rw [List.map_cons, List.flatten_cons, List.flatten_cons, grp_part]
    rw [grp_perm List.perm_append_comm, ← grp_part, grp_flat k ls, grp_part, grp_perm List.perm_append_comm]
end Go.Proofs.YtgeedjlbajmdkaaGreatDoor
