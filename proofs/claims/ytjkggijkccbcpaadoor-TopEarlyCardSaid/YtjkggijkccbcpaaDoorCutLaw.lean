/- Pairs dealt out into slices, one by one; then each folded (plain). -/
import Derived.Test.YtjkggijkccbcpaaDoorFold
import Derived.Test.YtjkggijkccbcpaaDoorMergeLaw
import Derived.Test.YtjkggijkccbcpaaDoorPairSum
import Derived.Test.YtjkggijkccbcpaaDoorExpr8
import Derived.Test.YtjkggijkccbcpaaDoorExpr6
import Derived.Test.YtjkggijkccbcpaaDoorPair4
set_option linter.unusedSimpArgs false
set_option linter.unusedVariables false
/- Plain laws of groups: in whichever groups values are folded, they are the same. -/
namespace Go.Proofs.YtjkggijkccbcpaaDoor
open Go.RowKit

theorem wrap64_eq (n : Int) : ∃ q : Int, wrap64 n = n - q * 18446744073709551616 := by
  refine ⟨(n + 9223372036854775808) / 18446744073709551616, ?_⟩
  unfold wrap64
  omega
theorem wrap64_of {m n q : Int} (h : m = n - q * 18446744073709551616) : wrap64 m = wrap64 n := by
  unfold wrap64
  omega
theorem two_comm (k a b : Int) : two k a b = two k b a := by
  unfold two
  rw [Int.add_comm a b, Int.min_comm, Int.max_comm]
theorem two_assoc (k a b c : Int) : two k a (two k b c) = two k (two k a b) c := by
  unfold two
  by_cases h : k = 2
  · simp only [h, if_true]; omega
  · by_cases h3 : k = 3
    · simp only [h, h3, if_true, if_false]; omega
    · simp only [h, h3, if_false]
      obtain ⟨q1, e1⟩ := wrap64_eq (b + c)
      obtain ⟨q2, e2⟩ := wrap64_eq (a + b)
      rw [e1, e2]
      refine wrap64_of (q := q1 - q2) ?_
      omega
/-- no two neighbours of one key -/
def Apart (l : List Pr) : Prop := ∀ (A B : List Pr) p q, l = A ++ p :: q :: B → p.1 ≠ q.1
theorem gstep_nil (k : Int) (p : Pr) : gstep k [] p = [p] := rfl
theorem gstep_same {k : Int} {S : List Pr} {q p : Pr} (h : q.1 = p.1) : gstep k (S ++ [q]) p = S ++ [(q.1, two k q.2 p.2)] := by
  unfold gstep
  rw [List.getLast?_concat]
  simp [h]
theorem gstep_other {k : Int} {S : List Pr} {q p : Pr} (h : q.1 ≠ p.1) : gstep k (S ++ [q]) p = S ++ [q] ++ [p] := by
  unfold gstep
  rw [List.getLast?_concat]
  simp [h]
theorem list_end {α : Type} (l : List α) : l = [] ∨ ∃ S q, l = S ++ [q] := by
  rcases List.eq_nil_or_concat l with h | ⟨S, q, h⟩
  · exact .inl h
  · exact .inr ⟨S, q, by simpa using h⟩
theorem groups_snoc (k : Int) (l : List Pr) (p : Pr) : groups k (l ++ [p]) = gstep k (groups k l) p := by unfold groups; rw [List.foldl_append]; rfl
theorem gstep_two (k : Int) (S : List Pr) {q p : Pr} (h : q.1 = p.1) : gstep k (gstep k S q) p = gstep k S (q.1, two k q.2 p.2) := by
  rcases list_end S with rfl | ⟨S, r, rfl⟩
  · rw [gstep_nil, gstep_nil]
    exact gstep_same (S := []) h
  · by_cases e : r.1 = q.1
    · rw [gstep_same e, gstep_same (q := (r.1, two k r.2 q.2)) (e.trans h), gstep_same (p := (q.1, two k q.2 p.2)) e]
      simp only [two_assoc]
    · rw [gstep_other e, gstep_other (p := (q.1, two k q.2 p.2)) e, gstep_same h]
theorem rev_ind2 {α : Type} {P : List α → Prop} (h0 : P []) (hs : ∀ l x, P l → P (l ++ [x])) (l : List α) : P l := by
  rw [← List.reverse_reverse l]
  induction l.reverse with
  | nil => exact h0
  | cons a t ih => rw [List.reverse_cons]; exact hs _ _ ih
theorem fold_groups (k : Int) (o B : List Pr) : (groups k B).foldl (gstep k) o = B.foldl (gstep k) o := by
  induction B using rev_ind2 with
  | h0 => rfl
  | hs B p ih =>
    rw [groups_snoc, List.foldl_append]
    rcases list_end (groups k B) with e | ⟨G, q, e⟩
    · rw [e] at ih
      rw [e, gstep_nil, ← ih]; rfl
    · rw [e] at ih
      rw [List.foldl_append] at ih
      rw [e, ← ih]
      by_cases h : q.1 = p.1
      · rw [gstep_same h, List.foldl_append]
        exact (gstep_two k _ h).symm
      · rw [gstep_other h, List.foldl_append, List.foldl_append]
theorem groups_groups (k : Int) (l : List Pr) : groups k (groups k l) = groups k l := fold_groups k [] l
theorem groups_parts (k : Int) (A B : List Pr) : groups k (groups k A ++ groups k B) = groups k (A ++ B) := by
  show (groups k A ++ groups k B).foldl (gstep k) [] = (A ++ B).foldl (gstep k) []
  rw [List.foldl_append, List.foldl_append, fold_groups k [] A, fold_groups]
end Go.Proofs.YtjkggijkccbcpaaDoor
/- Groups of pairs that rise: their keys rise, none is there twice, none is lost. -/
namespace Go.Proofs.YtjkggijkccbcpaaDoor
open Go.RowKit

theorem klt_key {a b c d : Pr} (h1 : a.1 = c.1) (h2 : b.1 = d.1) : klt a b = klt c d := by unfold klt; rw [h1, h2]
theorem mem_gstep {k : Int} {out : List Pr} {p q : Pr} (h : q ∈ gstep k out p) : (∃ x ∈ out, q.1 = x.1) ∨ q.1 = p.1 := by
  rcases list_end out with rfl | ⟨S, r, rfl⟩
  · rw [gstep_nil] at h
    right; rw [List.mem_singleton.1 h]
  · by_cases e : r.1 = p.1
    · rw [gstep_same e] at h
      rcases List.mem_append.1 h with h | h
      · exact .inl ⟨q, List.mem_append_left _ h, rfl⟩
      · exact .inl ⟨r, by simp, by rw [List.mem_singleton.1 h]⟩
    · rw [gstep_other e] at h
      rcases List.mem_append.1 h with h | h
      · exact .inl ⟨q, h, rfl⟩
      · right; rw [List.mem_singleton.1 h]
theorem gstep_mem {k : Int} {out : List Pr} {p x : Pr} (h : x ∈ out ∨ x = p) : ∃ q ∈ gstep k out p, q.1 = x.1 := by
  rcases list_end out with rfl | ⟨S, r, rfl⟩
  · rw [gstep_nil]
    rcases h with h | h
    · cases h
    · exact ⟨p, by simp, by rw [h]⟩
  · by_cases e : r.1 = p.1
    · rw [gstep_same e]
      rcases h with h | h
      · rcases List.mem_append.1 h with h | h
        · exact ⟨x, List.mem_append_left _ h, rfl⟩
        · exact ⟨(r.1, two k r.2 p.2), by simp, by rw [List.mem_singleton.1 h]⟩
      · exact ⟨(r.1, two k r.2 p.2), by simp, by rw [h]; exact e⟩
    · rw [gstep_other e]
      rcases h with h | h
      · exact ⟨x, List.mem_append_left _ h, rfl⟩
      · exact ⟨p, by simp, by rw [h]⟩
theorem groups_of (k : Int) : ∀ (l : List Pr), ∀ q ∈ groups k l, ∃ p ∈ l, q.1 = p.1 := by
  intro l
  induction l using rev_ind2 with
  | h0 => intro q h; simp [groups] at h
  | hs l p ih =>
    intro q h
    rw [groups_snoc] at h
    rcases mem_gstep h with ⟨x, hx, e⟩ | e
    · obtain ⟨y, hy, e2⟩ := ih x hx
      exact ⟨y, List.mem_append_left _ hy, e.trans e2⟩
    · exact ⟨p, by simp, e⟩
/-- none is lost -/
theorem groups_has (k : Int) : ∀ (l : List Pr), ∀ p ∈ l, ∃ q ∈ groups k l, q.1 = p.1 := by
  intro l
  induction l using rev_ind2 with
  | h0 => intro q h; cases h
  | hs l p ih =>
    intro x h
    rw [groups_snoc]
    rcases List.mem_append.1 h with h | h
    · obtain ⟨y, hy, e⟩ := ih x h
      obtain ⟨z, hz, e2⟩ := gstep_mem (k := k) (p := p) (.inl hy)
      exact ⟨z, hz, e2.trans e⟩
    · exact gstep_mem (.inr (List.mem_singleton.1 h))
/-- they rise -/
theorem groups_incr (k : Int) : ∀ (l : List Pr), Rise l → (groups k l).Pairwise fun a b => klt a b = true := by
  intro l
  induction l using rev_ind2 with
  | h0 => intro _; simp [groups]
  | hs l p ih =>
    intro h
    obtain ⟨h1, _, h2⟩ := Rise.append.1 h
    have h3 := ih h1
    have h4 := groups_of k l
    rw [groups_snoc]
    rcases list_end (groups k l) with e | ⟨S, q, e⟩
    · rw [e, gstep_nil]; simp
    · rw [e] at h3 h4 ⊢
      obtain ⟨p1, _, p3⟩ := List.pairwise_append.1 h3
      by_cases he : q.1 = p.1
      · rw [gstep_same he]
        refine List.pairwise_append.2 ⟨p1, by simp, fun a ha b hb => ?_⟩
        obtain rfl := List.mem_singleton.1 hb
        rw [klt_key (a := a) (b := (q.1, two k q.2 p.2)) (c := a) (d := q) rfl rfl]
        exact p3 a ha q (by simp)
      · rw [gstep_other he]
        have hq : klt q p = true := by
          obtain ⟨y, hy, ey⟩ := h4 q (by simp)
          have h5 := h2 y hy p (by simp)
          rw [← klt_key (a := p) (b := q) rfl ey] at h5
          rcases bl_tri q.1.toList p.1.toList with h6 | h6 | h6
          · exact h6
          · exact absurd (tl_inj h6) he
          · unfold klt at h5; rw [h6] at h5; cases h5
        refine List.pairwise_append.2 ⟨h3, by simp, fun a ha b hb => ?_⟩
        obtain rfl := List.mem_singleton.1 hb
        rcases List.mem_append.1 ha with ha | ha
        · exact klt_trans (p3 a ha q (by simp)) hq
        · rw [List.mem_singleton.1 ha]; exact hq
end Go.Proofs.YtjkggijkccbcpaaDoor
/- Groups of sorted pairs: in whichever order, and in whichever groups, they are the same. -/
namespace Go.Proofs.YtjkggijkccbcpaaDoor
open Go.RowKit

/-- pairs that are sorted, then folded -/
def grp (k : Int) (l : List Pr) : List Pr := groups k (srt l)
/-- one pair more, put where it belongs -/
def insG (k : Int) (x : Pr) : List Pr → List Pr
  | [] => [x]
  | a :: l => if klt a x = true then a :: insG k x l else if a.1 = x.1 then (a.1, two k a.2 x.2) :: l else x :: a :: l
def Incr (l : List Pr) : Prop := l.Pairwise fun a b => klt a b = true
theorem Incr.tail {a : Pr} {l : List Pr} (h : Incr (a :: l)) : Incr l := (List.pairwise_cons.1 h).2
theorem Incr.head {a : Pr} {l : List Pr} (h : Incr (a :: l)) : ∀ b ∈ l, klt a b = true := (List.pairwise_cons.1 h).1
theorem klt_self {a b : Pr} (h : a.1 = b.1) : klt a b = false := by unfold klt; rw [h]; exact bl_irrefl _
theorem klt_or {a b : Pr} : klt a b = true ∨ a.1 = b.1 ∨ klt b a = true := by
  rcases bl_tri a.1.toList b.1.toList with h | h | h
  · exact .inl h
  · exact .inr (.inl (tl_inj h))
  · exact .inr (.inr h)
theorem insG_nil (k : Int) (x : Pr) : insG k x [] = [x] := by unfold insG; rfl
theorem insG_lt {k : Int} {x a : Pr} {l : List Pr} (h : klt a x = true) : insG k x (a :: l) = a :: insG k x l := by conv => lhs; unfold insG; rw [if_pos h]
theorem insG_eq {k : Int} {x a : Pr} {l : List Pr} (h : a.1 = x.1) : insG k x (a :: l) = (a.1, two k a.2 x.2) :: l := by
  conv => lhs; unfold insG; rw [if_neg (by rw [klt_self h]; decide), if_pos h]
theorem insG_gt {k : Int} {x a : Pr} {l : List Pr} (h : klt x a = true) : insG k x (a :: l) = x :: a :: l := by
  conv => lhs; unfold insG; rw [if_neg (by rw [klt_asymm h]; decide), if_neg (fun e => by rw [klt_self e.symm] at h; cases h)]
/-- a pair of another value, but the same key, goes to the same place -/
theorem mem_insG {k : Int} {x y : Pr} : ∀ {l : List Pr}, y ∈ insG k x l → y.1 = x.1 ∨ ∃ z ∈ l, y.1 = z.1
  | [], h => by rw [insG_nil] at h; left; rw [List.mem_singleton.1 h]
  | a :: l, h => by
    rcases klt_or (a := a) (b := x) with e | e | e
    · rw [insG_lt e] at h
      rcases List.mem_cons.1 h with h | h
      · exact .inr ⟨a, List.mem_cons_self, by rw [h]⟩
      · rcases mem_insG h with h | ⟨z, hz, h⟩
        · exact .inl h
        · exact .inr ⟨z, List.mem_cons_of_mem _ hz, h⟩
    · rw [insG_eq e] at h
      rcases List.mem_cons.1 h with h | h
      · exact .inr ⟨a, List.mem_cons_self, by rw [h]⟩
      · exact .inr ⟨y, List.mem_cons_of_mem _ h, rfl⟩
    · rw [insG_gt e] at h
      rcases List.mem_cons.1 h with h | h
      · exact .inl (by rw [h])
      · exact .inr ⟨y, h, rfl⟩
theorem insG_incr {k : Int} {x : Pr} : ∀ {l : List Pr}, Incr l → Incr (insG k x l)
  | [], _ => by rw [insG_nil]; exact List.pairwise_singleton _ _
  | a :: l, h => by
    rcases klt_or (a := a) (b := x) with e | e | e
    · rw [insG_lt e]
      refine List.pairwise_cons.2 ⟨fun b hb => ?_, insG_incr h.tail⟩
      rcases mem_insG hb with h1 | ⟨z, hz, h1⟩
      · rw [klt_key (a := a) (b := b) (c := a) (d := x) rfl h1]; exact e
      · rw [klt_key (a := a) (b := b) (c := a) (d := z) rfl h1]; exact h.head z hz
    · rw [insG_eq e]
      refine List.pairwise_cons.2 ⟨fun b hb => ?_, h.tail⟩
      rw [klt_key (a := (a.1, two k a.2 x.2)) (b := b) (c := a) (d := b) rfl rfl]
      exact h.head b hb
    · rw [insG_gt e]
      refine List.pairwise_cons.2 ⟨fun b hb => ?_, h⟩
      rcases List.mem_cons.1 hb with h1 | h1
      · rw [h1]; exact e
      · exact klt_trans e (h.head b h1)
/-- in whichever order -/
theorem insG_comm (k : Int) (x y : Pr) : ∀ (l : List Pr), insG k x (insG k y l) = insG k y (insG k x l)
  | [] => by
    rw [insG_nil, insG_nil]
    rcases klt_or (a := x) (b := y) with e | e | e
    · rw [insG_gt e, insG_lt e, insG_nil]
    · rw [insG_eq e.symm, insG_eq e, two_comm, e]
    · rw [insG_lt e, insG_gt e, insG_nil]
  | a :: l => by
    have ih := insG_comm k x y l
    rcases klt_or (a := a) (b := x) with ex | ex | ex <;> rcases klt_or (a := a) (b := y) with ey | ey | ey
    · rw [insG_lt ey, insG_lt ex, insG_lt ex, insG_lt ey, ih]
    · rw [insG_eq ey, insG_lt ex, insG_eq ey]
      rw [insG_lt (a := (a.1, two k a.2 y.2)) (by rw [klt_key (a := (a.1, two k a.2 y.2)) (b := x) (c := a) (d := x) rfl rfl]; exact ex)]
    · rw [insG_gt ey, insG_lt ex, insG_gt ey]
      have hyx : klt y x = true := klt_trans ey ex
      rw [insG_lt hyx, insG_lt ex]
    · rw [insG_lt ey, insG_eq ex, insG_eq ex]
      rw [insG_lt (a := (a.1, two k a.2 x.2)) (by rw [klt_key (a := (a.1, two k a.2 x.2)) (b := y) (c := a) (d := y) rfl rfl]; exact ey)]
    · rw [insG_eq ey, insG_eq ex, insG_eq (a := (a.1, two k a.2 y.2)) ex, insG_eq (a := (a.1, two k a.2 x.2)) ey]
      dsimp only
      rw [← two_assoc, ← two_assoc, two_comm k y.2 x.2]
    · have hyx : klt y x = true := by rw [klt_key (a := y) (b := x) (c := y) (d := a) rfl ex.symm]; exact ey
      rw [insG_gt ey, insG_eq ex, insG_lt hyx, insG_eq ex]
      rw [insG_gt (a := (a.1, two k a.2 x.2)) (by rw [klt_key (a := y) (b := (a.1, two k a.2 x.2)) (c := y) (d := a) rfl rfl]; exact ey)]
    · have hxy : klt x y = true := klt_trans ex ey
      rw [insG_lt ey, insG_gt ex, insG_gt ex, insG_lt hxy, insG_lt ey]
    · have hxy : klt x y = true := by rw [klt_key (a := x) (b := y) (c := x) (d := a) rfl ey.symm]; exact ex
      rw [insG_eq ey, insG_gt ex, insG_lt hxy, insG_eq ey]
      rw [insG_gt (a := (a.1, two k a.2 y.2)) (by rw [klt_key (a := x) (b := (a.1, two k a.2 y.2)) (c := x) (d := a) rfl rfl]; exact ex)]
    · rcases klt_or (a := x) (b := y) with e | e | e
      · rw [insG_gt ey, insG_gt ex, insG_gt e, insG_lt e, insG_gt ey]
      · rw [insG_gt ey, insG_gt ex, insG_eq e.symm, insG_eq e, two_comm, e]
      · rw [insG_gt ey, insG_gt ex, insG_lt e, insG_gt ex, insG_gt e]
/-- the canonical form -/
def sumG (k : Int) (o l : List Pr) : List Pr := l.foldl (fun s x => insG k x s) o
theorem sumG_perm {k : Int} {l m : List Pr} (h : l.Perm m) : ∀ o, sumG k o l = sumG k o m := by
  induction h with
  | nil => intro o; rfl
  | cons x _ ih => intro o; exact ih _
  | swap x y l =>
    intro o
    show sumG k (insG k x (insG k y o)) l = sumG k (insG k y (insG k x o)) l
    rw [insG_comm]
  | trans _ _ ih1 ih2 => intro o; rw [ih1, ih2]
theorem sumG_append (k : Int) (o a b : List Pr) : sumG k o (a ++ b) = sumG k (sumG k o a) b := List.foldl_append ..
theorem sumG_incr {k : Int} : ∀ (l o : List Pr), Incr o → Incr (sumG k o l)
  | [], _, h => h
  | x :: l, _, h => sumG_incr l _ (insG_incr h)
theorem insG_end {k : Int} {x : Pr} : ∀ {l : List Pr}, (∀ a ∈ l, klt a x = true) → insG k x l = l ++ [x]
  | [], _ => by rw [insG_nil]; rfl
  | a :: l, h => by rw [insG_lt (h a List.mem_cons_self), insG_end fun b hb => h b (List.mem_cons_of_mem _ hb)]; rfl
theorem sumG_self {k : Int} : ∀ (l o : List Pr), Incr (o ++ l) → sumG k o l = o ++ l
  | [], o, _ => by rw [List.append_nil]; rfl
  | x :: l, o, h => by
    have h1 := (List.pairwise_append.1 h).2.2
    show sumG k (insG k x o) l = _
    rw [insG_end fun a ha => h1 a ha x List.mem_cons_self, sumG_self l (o ++ [x]) (by rw [List.append_assoc]; exact h), List.append_assoc]
    rfl
/-- a step at the end of what rises -/
theorem gstep_insG {k : Int} {x : Pr} {o : List Pr} (h : Incr o) (hx : ∀ a ∈ o, klt x a = false) : gstep k o x = insG k x o := by
  rcases list_end o with rfl | ⟨S, q, rfl⟩
  · rw [gstep_nil, insG_nil]
  · have hS : ∀ a ∈ S, klt a q = true := fun a ha => (List.pairwise_append.1 h).2.2 a ha q (List.mem_singleton.2 rfl)
    have hq := hx q (by simp)
    by_cases e : q.1 = x.1
    · rw [gstep_same e]
      have key : ∀ (S : List Pr), (∀ a ∈ S, klt a q = true) → insG k x (S ++ [q]) = S ++ [(q.1, two k q.2 x.2)] := by
        intro S
        induction S with
        | nil => intro _; exact insG_eq e
        | cons a S ih =>
          intro hS
          have ha : klt a x = true := by rw [klt_key (a := a) (b := x) (c := a) (d := q) rfl e.symm]; exact hS a List.mem_cons_self
          rw [List.cons_append, insG_lt ha, ih fun b hb => hS b (List.mem_cons_of_mem _ hb)]
          rfl
      rw [key S hS]
    · rw [gstep_other e]
      have hqx : klt q x = true := by
        rcases klt_or (a := q) (b := x) with h1 | h1 | h1
        · exact h1
        · exact absurd h1 e
        · rw [h1] at hq; cases hq
      rw [insG_end]
      intro a ha
      rcases List.mem_append.1 ha with ha | ha
      · exact klt_trans (hS a ha) hqx
      · rw [List.mem_singleton.1 ha]; exact hqx
theorem groups_sumG (k : Int) : ∀ (l : List Pr), Rise l → groups k l = sumG k [] l := by
  intro l
  induction l using rev_ind2 with
  | h0 => intro _; rfl
  | hs l p ih =>
    intro h
    obtain ⟨h1, _, h2⟩ := Rise.append.1 h
    rw [groups_snoc, sumG_append, ← ih h1]
    refine gstep_insG (groups_incr k l h1) fun a ha => ?_
    obtain ⟨y, hy, e⟩ := groups_of k l a ha
    rw [klt_key (a := p) (b := a) (c := p) (d := y) rfl e]
    exact h2 y hy p (by simp)
/-- in whichever order -/
theorem grp_eq (k : Int) (l : List Pr) : grp k l = sumG k [] l := by
  unfold grp
  rw [groups_sumG k _ (srt_rise l)]
  exact sumG_perm (srt_perm l) []
theorem grp_perm {k : Int} {l m : List Pr} (h : l.Perm m) : grp k l = grp k m := by rw [grp_eq, grp_eq]; exact sumG_perm h []
theorem grp_incr (k : Int) (l : List Pr) : Incr (grp k l) := by rw [grp_eq]; exact sumG_incr l [] List.Pairwise.nil
/-- in whichever groups -/
theorem grp_part (k : Int) (a b : List Pr) : grp k (grp k a ++ b) = grp k (a ++ b) := by
  rw [grp_eq, grp_eq k (a ++ b), sumG_append, sumG_append, sumG_self (grp k a) [] (grp_incr k a), grp_eq k a]
  rfl
theorem grp_parts (k : Int) (a b : List Pr) : grp k (grp k a ++ grp k b) = grp k (a ++ b) := by
  rw [grp_part, grp_perm List.perm_append_comm, grp_part, grp_perm List.perm_append_comm]
theorem grp_flat (k : Int) : ∀ (ls : List (List Pr)), grp k (ls.map (grp k)).flatten = grp k ls.flatten
  | [] => rfl
  | l :: ls => by
    rw [List.map_cons, List.flatten_cons, List.flatten_cons, grp_part]
    rw [grp_perm List.perm_append_comm, ← grp_part, grp_flat k ls, grp_part, grp_perm List.perm_append_comm]
end Go.Proofs.YtjkggijkccbcpaaDoor
/- Slices of pairs: those of a key lie in one; sorting and folding go by slices. -/
namespace Go.Proofs.YtjkggijkccbcpaaDoor
open Go.RowKit

/-- a test of the key alone -/
def ByKey (p : Pr → Bool) : Prop := ∀ a b : Pr, a.1 = b.1 → p a = p b
theorem filter_isK {p : Pr → Bool} (hp : ByKey p) (l : List Pr) (k : List UInt8) : (l.filter p).filter (isK k) = (l.filter (isK k)).filter p := by
  rw [List.filter_filter, List.filter_filter]
  congr 1
  funext a
  exact Bool.and_comm _ _
theorem srt_filter {p : Pr → Bool} (hp : ByKey p) (l : List Pr) : (srt l).filter p = srt (l.filter p) := by
  refine srt_of ((srt_rise l).sub List.filter_sublist) fun k => ?_
  rw [filter_isK hp, filter_isK hp, srt_same l k]
theorem insG_filter {p : Pr → Bool} (hp : ByKey p) {k : Int} {x : Pr} : ∀ (l : List Pr), Incr l → (insG k x l).filter p = if p x = true then insG k x (l.filter p) else l.filter p
  | [], _ => by
    rw [insG_nil]
    by_cases h : p x = true
    · rw [if_pos h, List.filter_cons_of_pos h, List.filter_nil, insG_nil]
    · rw [if_neg h, List.filter_cons_of_neg h]
  | a :: l, hi => by
    have ih := insG_filter hp (k := k) (x := x) l hi.tail
    rcases klt_or (a := a) (b := x) with e | e | e
    · rw [insG_lt e]
      by_cases ha : p a = true
      · rw [List.filter_cons_of_pos ha, List.filter_cons_of_pos ha, ih]
        by_cases hx : p x = true
        · rw [if_pos hx, if_pos hx, insG_lt e]
        · rw [if_neg hx, if_neg hx]
      · rw [List.filter_cons_of_neg ha, List.filter_cons_of_neg ha, ih]
    · have hpp := hp a x e
      have h2 : p (a.1, two k a.2 x.2) = p x := hp _ _ e
      rw [insG_eq e]
      by_cases hx : p x = true
      · rw [if_pos hx, List.filter_cons_of_pos (by rw [h2]; exact hx), List.filter_cons_of_pos (by rw [hpp]; exact hx), insG_eq e]
      · rw [if_neg hx, List.filter_cons_of_neg (by rw [h2]; exact hx), List.filter_cons_of_neg (by rw [hpp]; exact hx)]
    · rw [insG_gt e]
      by_cases hx : p x = true
      · rw [if_pos hx, List.filter_cons_of_pos hx]
        have hlt : ∀ b ∈ (a :: l).filter p, klt x b = true := by
          intro b hb
          rcases List.mem_cons.1 (List.mem_filter.1 hb).1 with h | h
          · rw [h]; exact e
          · exact klt_trans e (hi.head b h)
        generalize (a :: l).filter p = m at *
        rcases m with _ | ⟨b, m⟩
        · rw [insG_nil]
        · rw [insG_gt (hlt b List.mem_cons_self)]
      · rw [if_neg hx, List.filter_cons_of_neg hx]
theorem sumG_filter {p : Pr → Bool} (hp : ByKey p) {k : Int} : ∀ (l o : List Pr), Incr o → (sumG k o l).filter p = sumG k (o.filter p) (l.filter p)
  | [], _, _ => rfl
  | x :: l, o, ho => by
    show (sumG k (insG k x o) l).filter p = _
    rw [sumG_filter hp l _ (insG_incr ho), insG_filter hp o ho]
    by_cases hx : p x = true
    · rw [if_pos hx, List.filter_cons_of_pos hx]; rfl
    · rw [if_neg hx, List.filter_cons_of_neg hx]
theorem grp_filter {p : Pr → Bool} (hp : ByKey p) (k : Int) (l : List Pr) : (grp k l).filter p = grp k (l.filter p) := by
  rw [grp_eq, grp_eq, sumG_filter hp l [] List.Pairwise.nil]
  rfl
theorem grp_grp (k : Int) (l : List Pr) : grp k (grp k l) = grp k l := by
  have := grp_part k l []
  rwa [List.append_nil, List.append_nil] at this
/-- those of slice n, of so many -/
def inSlice (many : Int) (n : Nat) (p : Pr) : Bool := decide (sliceB p.1 many = n)
theorem inSlice_key (many : Int) (n : Nat) : ByKey (inSlice many n) := fun a b h => by unfold inSlice; rw [h]
/-- a job's slices of pairs -/
def cutP (fold : Int) (early : Bool) (many : Nat) (l : List Pr) : List (List Pr) :=
  (List.range many).map fun n => if early = true then groups fold ((srt l).filter (inSlice many n)) else (srt l).filter (inSlice many n)
theorem cutP_get {fold : Int} {early : Bool} {many n : Nat} {l : List Pr} (h : n < many) : (cutP fold early many l)[n]? = some (if early = true then grp fold (l.filter (inSlice many n)) else srt (l.filter (inSlice many n))) := by
  unfold cutP
  rw [List.getElem?_map, List.getElem?_range h]
  simp only [Option.map_some, srt_filter (inSlice_key _ _)]
  rfl
end Go.Proofs.YtjkggijkccbcpaaDoor
/- What a job makes of a record: the pairs of its rules. -/
namespace Go.Proofs.YtjkggijkccbcpaaDoor
open Go.RowKit

/-- a rule: of each record or of each word, if that is so, a pair -/
structure RuleV where
  each : Bool
  when_ : Int
  cond : ExprV
  txt : ByteArray
  key : ExprV
  val : ExprV
def cut20 (k : ByteArray) : ByteArray := k.extract 0 (min k.size 20)
/-- is it so? -/
def ifR (r : RuleV) (line it : ByteArray) (ws : List ByteArray) : Bool := r.when_ == 0 || (decide (strE r.cond line it ws = r.txt) == decide (r.when_ = 1))
def pairR (r : RuleV) (kind : Int) (line it : ByteArray) (ws : List ByteArray) : Pr := (cut20 (strE r.key line it ws), first kind (intE r.val line it ws))
def madeR (r : RuleV) (kind : Int) (line : ByteArray) (ws : List ByteArray) (it : ByteArray) : Option Pr := if ifR r line it ws = true then some (pairR r kind line it ws) else none
def itsR (r : RuleV) (ws : List ByteArray) : List ByteArray := if r.each = true then ws else [⟨#[]⟩]
/-- what a rule makes -/
def pairsR (r : RuleV) (kind : Int) (line : ByteArray) : List Pr := (itsR r (wordsB line)).filterMap (madeR r kind line (wordsB line))
/-- what a job makes -/
def pairsJ (rs : List RuleV) (kind : Int) (line : ByteArray) : List Pr := rs.flatMap fun r => pairsR r kind line
theorem pairsJ_succ {rs : List RuleV} {i : Nat} {r : RuleV} (kind : Int) (line : ByteArray) (h : rs[i]? = some r) : pairsJ (rs.take (i + 1)) kind line = pairsJ (rs.take i) kind line ++ pairsR r kind line := by
  obtain ⟨hlt, hx⟩ := List.getElem?_eq_some_iff.1 h
  unfold pairsJ
  rw [List.take_succ_eq_append_getElem hlt, hx, List.flatMap_append]
  simp
theorem pairsJ_one (r : RuleV) (kind : Int) (line : ByteArray) : pairsJ [r] kind line = pairsR r kind line := by simp [pairsJ]
theorem itsR_len (r : RuleV) (ws : List ByteArray) : (itsR r ws).length ≤ ws.length + 1 := by
  unfold itsR
  split
  · omega
  · simp
theorem pairsR_len (r : RuleV) (kind : Int) (line : ByteArray) : (pairsR r kind line).length ≤ (wordsB line).length + 1 :=
  Nat.le_trans (List.length_filterMap_le _ _) (itsR_len r _)
theorem filterMap_parts {α β : Type} {f g h : α → Option β} (hp : ∀ x, (f x = h x ∧ g x = none) ∨ (f x = none ∧ g x = h x)) : ∀ (l : List α), (l.filterMap f ++ l.filterMap g).Perm (l.filterMap h)
  | [] => List.Perm.refl _
  | x :: l => by
    have ih := filterMap_parts hp l
    rcases hp x with ⟨h1, h2⟩ | ⟨h1, h2⟩
    · rw [List.filterMap_cons_none h2]
      cases hx : h x with
      | none => rw [hx] at h1; rw [List.filterMap_cons_none h1, List.filterMap_cons_none hx]; exact ih
      | some y => rw [hx] at h1; rw [List.filterMap_cons_some h1, List.filterMap_cons_some hx]; exact List.Perm.cons _ ih
    · rw [List.filterMap_cons_none h1]
      cases hx : h x with
      | none => rw [hx] at h2; rw [List.filterMap_cons_none h2, List.filterMap_cons_none hx]; exact ih
      | some y =>
        rw [hx] at h2
        rw [List.filterMap_cons_some h2, List.filterMap_cons_some hx]
        exact List.perm_middle.trans (List.Perm.cons _ ih)
/-- always is: if it is so, and if it is not -/
theorem when_parts (e : Bool) (c c2 : ExprV) (t t2 : ByteArray) (k v : ExprV) (kind : Int) (line : ByteArray) :
    (pairsR ⟨e, 1, c, t, k, v⟩ kind line ++ pairsR ⟨e, 2, c, t, k, v⟩ kind line).Perm (pairsR ⟨e, 0, c2, t2, k, v⟩ kind line) := by
  unfold pairsR
  refine filterMap_parts (fun x => ?_) _
  unfold madeR ifR
  by_cases h : strE c line x (wordsB line) = t
  · left; simp [h, pairR]
  · right; simp [h, pairR]
def leB (a b : ByteArray) : Prop := Op.bytesLess b.toList a.toList = false
theorem leB_anti {a b : ByteArray} (h : leB a b) (h2 : leB b a) : a = b := by
  rcases bl_tri a.toList b.toList with e | e | e
  · unfold leB at h2; rw [e] at h2; cases h2
  · exact tl_inj e
  · unfold leB at h; rw [e] at h; cases h
theorem sorted_unique : ∀ {l m : List ByteArray}, l.Pairwise leB → m.Pairwise leB → l.Perm m → l = m
  | [], m, _, _, h => (List.nil_perm.1 h).symm
  | a :: l, m, h1, h2, h => by
    rcases m with _ | ⟨b, m⟩
    · exact absurd h.length_eq (by simp)
    · have hab : a = b := by
        have ha : a ∈ b :: m := h.subset List.mem_cons_self
        have hb : b ∈ a :: l := h.symm.subset List.mem_cons_self
        rcases List.mem_cons.1 ha with e | e
        · exact e
        · rcases List.mem_cons.1 hb with e2 | e2
          · exact e2.symm
          · exact leB_anti ((List.pairwise_cons.1 h1).1 b e2) ((List.pairwise_cons.1 h2).1 a e)
      subst hab
      rw [sorted_unique (List.pairwise_cons.1 h1).2 (List.pairwise_cons.1 h2).2 (List.perm_cons a |>.1 h)]
theorem srt_keys {l m : List Pr} (h : l.Perm m) : (srt l).map (·.1) = (srt m).map (·.1) := by
  have key : ∀ l : List Pr, ((srt l).map (·.1)).Pairwise leB := fun l => by
    rw [List.pairwise_map]
    exact (srt_rise l).imp fun h => h
  exact sorted_unique (key l) (key m) ((((srt_perm l).trans h).trans (srt_perm m).symm).map _)
end Go.Proofs.YtjkggijkccbcpaaDoor
/- What is wrong with a job (plain). -/
namespace Go.Proofs.YtjkggijkccbcpaaDoor
open Go.RowKit

/-- an empty condition -/
def blankE : ExprV → Bool
  | .mk k n s a => (k == 0) && ((n == 0) && (s.toList.isEmpty && a.isEmpty))
/-- what is wrong with a rule's condition -/
def condF (r : RuleV) : Int :=
  if r.when_ = 0 then (if r.txt.toList.isEmpty = true ∧ blankE r.cond = true then 0 else 3)
  else if r.when_ = 1 ∨ r.when_ = 2 then (if r.txt.size ≤ 20 ∧ decide (0 ≤ Lib.indexByte r.txt.data.toList 10) = false then faultE r.cond true r.each else 3)
  else 3
def ruleF (r : RuleV) : Int :=
  if condF r ≠ 0 then condF r else if faultE r.key true r.each ≠ 0 then faultE r.key true r.each else faultE r.val false r.each
def rulesF : List RuleV → Int
  | [] => 0
  | r :: l => if ruleF r ≠ 0 then ruleF r else rulesF l
def jobF (rs : List RuleV) (fold slices : Int) : Int :=
  if rs.length < 1 ∨ 4 < rs.length then 2 else if fold < 1 ∨ 4 < fold then 3 else if slices < 1 ∨ 4 < slices then 1 else rulesF rs
theorem condF_nn (r : RuleV) : 0 ≤ condF r := by
  unfold condF
  split
  · split <;> decide
  · split
    · split
      · exact faultE_nn _ _ _
      · decide
    · decide
theorem ruleF_nn (r : RuleV) : 0 ≤ ruleF r := by
  unfold ruleF
  split
  · exact condF_nn r
  · split
    · exact faultE_nn _ _ _
    · exact faultE_nn _ _ _
theorem rulesF_nn : ∀ l : List RuleV, 0 ≤ rulesF l
  | [] => Int.le_refl _
  | r :: l => by
    unfold rulesF
    split
    · exact ruleF_nn r
    · exact rulesF_nn l
theorem jobF_nn (rs : List RuleV) (fold slices : Int) : 0 ≤ jobF rs fold slices := by
  unfold jobF
  split
  · decide
  · split
    · decide
    · split
      · decide
      · exact rulesF_nn rs
theorem rulesF_drop {l : List RuleV} {i : Nat} {r : RuleV} (h : l[i]? = some r) : rulesF (l.drop i) = if ruleF r ≠ 0 then ruleF r else rulesF (l.drop (i + 1)) := by
  obtain ⟨hlt, hx⟩ := List.getElem?_eq_some_iff.1 h
  rw [List.drop_eq_getElem_cons hlt, hx]
  rfl
theorem rulesF_all : ∀ {l : List RuleV}, rulesF l = 0 → ∀ r ∈ l, ruleF r = 0
  | [], _, r, hr => by cases hr
  | a :: l, h, r, hr => by
    unfold rulesF at h
    split at h
    · rename_i h2; exact absurd h h2
    · rename_i h2
      rcases List.mem_cons.1 hr with rfl | hr
      · exact Classical.not_not.1 h2
      · exact rulesF_all h r hr
theorem rulesF_zero : ∀ {l : List RuleV}, (∀ r ∈ l, ruleF r = 0) → rulesF l = 0
  | [], _ => rfl
  | a :: l, h => by
    unfold rulesF
    rw [if_neg (by rw [h a List.mem_cons_self]; simp)]
    exact rulesF_zero fun r hr => h r (List.mem_cons_of_mem _ hr)
theorem fault_ok {e : ExprV} {text each : Bool} (h : faultE e text each = 0) : e.nodes ≤ 30 ∧ e.deep ≤ 5 ∧ shE e text each = true := by
  unfold faultE at h
  split at h
  · cases h
  · rename_i h1
    split at h
    · rename_i h2; exact ⟨by omega, by omega, h2⟩
    · cases h
/-- a rule that may be -/
structure RuleOk (r : RuleV) : Prop where
  key : r.key.nodes ≤ 30 ∧ r.key.deep ≤ 5 ∧ shE r.key true r.each = true
  val : r.val.nodes ≤ 30 ∧ r.val.deep ≤ 5 ∧ shE r.val false r.each = true
  cond : r.when_ ≠ 0 → r.cond.nodes ≤ 30 ∧ r.cond.deep ≤ 5 ∧ shE r.cond true r.each = true
  whn : r.when_ = 0 ∨ r.when_ = 1 ∨ r.when_ = 2
  txt : r.txt.size ≤ 20
theorem RuleOk.of {r : RuleV} (h : ruleF r = 0) : RuleOk r := by
  unfold ruleF at h
  split at h
  · rename_i h2; exact absurd h h2
  · rename_i h1
    split at h
    · rename_i h2; exact absurd h h2
    · rename_i h2
      have hc : condF r = 0 := Classical.not_not.1 h1
      have hk : faultE r.key true r.each = 0 := Classical.not_not.1 h2
      refine ⟨fault_ok hk, fault_ok h, fun hw => ?_, ?_, ?_⟩
      · unfold condF at hc
        rw [if_neg hw] at hc
        split at hc
        · split at hc
          · exact fault_ok hc
          · cases hc
        · cases hc
      · unfold condF at hc
        split at hc
        · left; assumption
        · split at hc
          · right; assumption
          · cases hc
      · unfold condF at hc
        split at hc
        · split at hc
          · rename_i h3
            have h4 : r.txt.toList = [] := List.isEmpty_iff.1 h3.1
            have h5 : r.txt.size = r.txt.toList.length := by rw [tl, tl_len]
            rw [h5, h4]; exact Nat.zero_le _
          · cases hc
        · split at hc
          · split at hc
            · rename_i h3; exact h3.1
            · cases hc
          · cases hc
theorem jobF_ok {rs : List RuleV} {fold slices : Int} (h : jobF rs fold slices = 0) : (1 ≤ rs.length ∧ rs.length ≤ 4) ∧ (1 ≤ fold ∧ fold ≤ 4) ∧ (1 ≤ slices ∧ slices ≤ 4) ∧ ∀ r ∈ rs, ruleF r = 0 := by
  unfold jobF at h
  split at h
  · cases h
  · split at h
    · cases h
    · split at h
      · cases h
      · exact ⟨by omega, by omega, by omega, rulesF_all h⟩
end Go.Proofs.YtjkggijkccbcpaaDoor
/- Slices of pairs: none is lost; what comes out of them. -/
namespace Go.Proofs.YtjkggijkccbcpaaDoor
open Go.RowKit

theorem sum_add (f g : Nat → Nat) : ∀ n, ((List.range n).map fun i => f i + g i).sum = ((List.range n).map f).sum + ((List.range n).map g).sum
  | 0 => rfl
  | n + 1 => by
    have ih := sum_add f g n
    rw [List.range_succ, List.map_append, List.map_append, List.map_append, List.sum_append, List.sum_append, List.sum_append, ih]
    simp only [List.map_cons, List.map_nil, List.sum_cons, List.sum_nil]
    omega
theorem sum_one (k : Nat) : ∀ n, ((List.range n).map fun i => if i = k then 1 else 0).sum = if k < n then 1 else 0
  | 0 => by simp
  | n + 1 => by
    have ih := sum_one k n
    rw [List.range_succ, List.map_append, List.sum_append, ih]
    simp only [List.map_cons, List.map_nil, List.sum_cons, List.sum_nil]
    split <;> split <;> split <;> omega
theorem sum_zero : ∀ n, ((List.range n).map fun _ => 0).sum = 0
  | 0 => rfl
  | n + 1 => by rw [List.range_succ, List.map_append, List.sum_append, sum_zero n]; rfl
theorem sum_le {f g : Nat → Nat} (h : ∀ i, f i ≤ g i) : ∀ n, ((List.range n).map f).sum ≤ ((List.range n).map g).sum
  | 0 => Nat.le_refl _
  | n + 1 => by
    have ih := sum_le h n
    have h1 := h n
    rw [List.range_succ, List.map_append, List.map_append, List.sum_append, List.sum_append]
    simp only [List.map_cons, List.map_nil, List.sum_cons, List.sum_nil]
    omega
theorem inSlice_iff {many : Nat} (hm : 1 ≤ many) (p : Pr) (n : Nat) : inSlice many n p = decide (n = (sliceB p.1 many).toNat) := by
  have h := sliceB_bd p.1 many
  unfold inSlice
  refine decide_eq_decide.2 ⟨fun e => by omega, fun e => by omega⟩
theorem slice_lt {many : Nat} (hm : 1 ≤ many) (p : Pr) : (sliceB p.1 many).toNat < many := by
  have h := sliceB_bd p.1 many
  omega
/-- none is lost -/
theorem slices_count {many : Nat} (hm : 1 ≤ many) : ∀ (l : List Pr), ((List.range many).map fun n => (l.filter (inSlice many n)).length).sum = l.length
  | [] => sum_zero many
  | p :: l => by
    have ih := slices_count hm l
    have e : (fun n => ((p :: l).filter (inSlice many n)).length) = fun n => (l.filter (inSlice many n)).length + if n = (sliceB p.1 many).toNat then 1 else 0 := by
      funext n
      by_cases h : n = (sliceB p.1 many).toNat
      · rw [List.filter_cons_of_pos (by rw [inSlice_iff hm]; simpa using h), if_pos h, List.length_cons]
      · rw [List.filter_cons_of_neg (by rw [inSlice_iff hm]; simpa using h), if_neg h]; rfl
    rw [e, sum_add, ih, sum_one, if_pos (slice_lt hm p), List.length_cons]
theorem cutP_len (fold : Int) (early : Bool) (many : Nat) (l : List Pr) : (cutP fold early many l).length = many := by unfold cutP; rw [List.length_map, List.length_range]
/-- a slice's pairs, folded at last -/
theorem cutP_grp {fold : Int} {early : Bool} {many n : Nat} {l s : List Pr} (h : n < many) (hs : (cutP fold early many l)[n]? = some s) : grp fold s = grp fold (l.filter (inSlice many n)) := by
  rw [cutP_get h] at hs
  cases hs
  split
  · exact grp_grp _ _
  · exact grp_perm (srt_perm _)
/-- a slice rises -/
theorem cutP_rise {fold : Int} {early : Bool} {many n : Nat} {l s : List Pr} (h : n < many) (hs : (cutP fold early many l)[n]? = some s) : Rise s := by
  rw [cutP_get h] at hs
  cases hs
  split
  · exact (grp_incr _ _).imp fun h => klt_asymm h
  · exact srt_rise _
/-- what is in a slice is of its keys -/
theorem cutP_in {fold : Int} {early : Bool} {many n : Nat} {l s : List Pr} (h : n < many) (hs : (cutP fold early many l)[n]? = some s) : ∀ p ∈ s, inSlice many n p = true := by
  rw [cutP_get h] at hs
  cases hs
  intro p hp
  split at hp
  · rw [← grp_filter (inSlice_key _ _)] at hp
    exact (List.mem_filter.1 hp).2
  · rw [← srt_filter (inSlice_key _ _)] at hp
    exact (List.mem_filter.1 hp).2
/-- parts of an input, slice by slice: early or not, the same comes out -/
theorem parts_grp {fold : Int} {early : Bool} {many n : Nat} (h : n < many) : ∀ (ls : List (List Pr)) (ss : List (List Pr)), ss.length = ls.length → (∀ (i : Nat) l s, ls[i]? = some l → ss[i]? = some s → (cutP fold early many l)[n]? = some s) → grp fold ss.flatten = grp fold (ls.flatten.filter (inSlice many n))
  | [], ss, hl, _ => by
    obtain rfl : ss = [] := List.length_eq_zero_iff.1 hl
    rfl
  | l :: ls, ss, hl, hh => by
    rcases ss with _ | ⟨s, ss⟩
    · simp at hl
    · have ih := parts_grp h ls ss (by simpa using hl) fun i a b ha hb => hh (i + 1) a b ha hb
      have h0 := cutP_grp h (hh 0 l s rfl rfl)
      rw [List.flatten_cons, List.flatten_cons, List.filter_append]
      rw [← grp_parts fold s, ← grp_parts fold (l.filter _), h0, ih]
end Go.Proofs.YtjkggijkccbcpaaDoor
namespace Go.Proofs.YtjkggijkccbcpaaDoor
open Go.RowKit

def cutTo (many : Nat) (S : List Pr) : List (List Pr) := (List.range many).map fun n => S.filter (inSlice many n)
theorem cutTo_len (many : Nat) (S : List Pr) : (cutTo many S).length = many := by unfold cutTo; rw [List.length_map, List.length_range]
theorem cutTo_nil (many : Nat) : cutTo many [] = List.replicate many [] := by
  unfold cutTo
  apply List.ext_getElem?
  intro i
  rw [List.getElem?_map, List.getElem?_replicate]
  by_cases h : i < many
  · rw [List.getElem?_range h, if_pos h]; rfl
  · rw [List.getElem?_eq_none (by rw [List.length_range]; omega), if_neg h]; rfl
theorem cutTo_get {many n : Nat} {S : List Pr} (h : n < many) : (cutTo many S)[n]? = some (S.filter (inSlice many n)) := by
  unfold cutTo
  rw [List.getElem?_map, List.getElem?_range h]; rfl
theorem cutTo_snoc {many : Nat} (hm : 1 ≤ many) (S : List Pr) (p : Pr) : cutTo many (S ++ [p]) = (cutTo many S).set (sliceB p.1 many).toNat (S.filter (inSlice many (sliceB p.1 many).toNat) ++ [p]) := by
  apply List.ext_getElem?
  intro i
  by_cases h : i < many
  · rw [cutTo_get h, List.filter_append]
    by_cases e : i = (sliceB p.1 many).toNat
    · subst e
      rw [List.getElem?_set_self (by rw [cutTo_len]; exact h)]
      have : inSlice many (sliceB p.1 many).toNat p = true := by rw [inSlice_iff hm]; simp
      simp [this]
    · rw [List.getElem?_set_ne (fun e2 => e e2.symm), cutTo_get h]
      have : inSlice many i p = false := by rw [inSlice_iff hm]; simpa using e
      simp [this]
  · rw [List.getElem?_eq_none (by rw [cutTo_len]; omega), List.getElem?_eq_none (by rw [List.length_set, cutTo_len]; omega)]
def foldTo (kind : Int) (many : Nat) (S : List Pr) (j : Nat) : List (List Pr) := (List.range many).map fun n => if n < j then groups kind (S.filter (inSlice many n)) else S.filter (inSlice many n)
theorem foldTo_zero (kind : Int) (many : Nat) (S : List Pr) : foldTo kind many S 0 = cutTo many S := by unfold foldTo cutTo; simp
theorem foldTo_len (kind : Int) (many : Nat) (S : List Pr) (j : Nat) : (foldTo kind many S j).length = many := by unfold foldTo; rw [List.length_map, List.length_range]
theorem foldTo_get {kind : Int} {many n j : Nat} {S : List Pr} (h : n < many) : (foldTo kind many S j)[n]? = some (if n < j then groups kind (S.filter (inSlice many n)) else S.filter (inSlice many n)) := by
  unfold foldTo
  rw [List.getElem?_map, List.getElem?_range h]; rfl
theorem foldTo_succ {kind : Int} {many j : Nat} {S : List Pr} (h : j < many) : foldTo kind many S (j + 1) = (foldTo kind many S j).set j (groups kind (S.filter (inSlice many j))) := by
  apply List.ext_getElem?
  intro i
  by_cases hi : i < many
  · rw [foldTo_get hi]
    by_cases e : i = j
    · subst e
      rw [List.getElem?_set_self (by rw [foldTo_len]; exact h), if_pos (by omega)]
    · rw [List.getElem?_set_ne (fun e2 => e e2.symm), foldTo_get hi]
      by_cases h2 : i < j
      · rw [if_pos h2, if_pos (by omega)]
      · rw [if_neg h2, if_neg (by omega)]
  · rw [List.getElem?_eq_none (by rw [foldTo_len]; omega), List.getElem?_eq_none (by rw [List.length_set, foldTo_len]; omega)]
theorem cutP_false {fold : Int} {many : Nat} (l : List Pr) : cutP fold false many l = cutTo many (srt l) := by unfold cutP cutTo; simp
theorem cutP_true {fold : Int} {many : Nat} (l : List Pr) : cutP fold true many l = foldTo fold many (srt l) many := by
  unfold cutP foldTo
  apply List.map_congr_left
  intro n hn
  rw [if_pos rfl, if_pos (List.mem_range.1 hn)]
end Go.Proofs.YtjkggijkccbcpaaDoor
