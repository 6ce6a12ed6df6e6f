/- Groups of sorted pairs: in whichever order, and in whichever groups, they are the same. -/
import Derived.Test.YtjkggijkccbcpaaDoorFold
import Derived.Test.YtjkggijkccbcpaaDoorMergeLaw
set_option linter.unusedSimpArgs false
set_option linter.unusedVariables false
/- Plain laws of groups: in whichever groups values are folded, they are the same. -/
namespace Go.Proofs.YtjkggijkccbcpaaDoor
open Go.RowKit

theorem wrap64_eq (n : Int) : ∃ q : Int, wrap64 n = n - q * 18446744073709551616 := by
  refine ⟨(n + 9223372036854775808) / 18446744073709551616, ?_⟩
  unfold wrap64
  omega
theorem wrap64_of {m n q : Int} (h : m = n - q * 18446744073709551616) : wrap64 m = wrap64 n := by
  unfold wrap64
  omega
theorem two_comm (k a b : Int) : two k a b = two k b a := by
  unfold two
  rw [Int.add_comm a b, Int.min_comm, Int.max_comm]
theorem two_assoc (k a b c : Int) : two k a (two k b c) = two k (two k a b) c := by
  unfold two
  by_cases h : k = 2
  · simp only [h, if_true]; omega
  · by_cases h3 : k = 3
    · simp only [h, h3, if_true, if_false]; omega
    · simp only [h, h3, if_false]
      obtain ⟨q1, e1⟩ := wrap64_eq (b + c)
      obtain ⟨q2, e2⟩ := wrap64_eq (a + b)
      rw [e1, e2]
      refine wrap64_of (q := q1 - q2) ?_
      omega
/-- no two neighbours of one key -/
def Apart (l : List Pr) : Prop := ∀ (A B : List Pr) p q, l = A ++ p :: q :: B → p.1 ≠ q.1
theorem gstep_nil (k : Int) (p : Pr) : gstep k [] p = [p] := rfl
theorem gstep_same {k : Int} {S : List Pr} {q p : Pr} (h : q.1 = p.1) : gstep k (S ++ [q]) p = S ++ [(q.1, two k q.2 p.2)] := by
  unfold gstep
  rw [List.getLast?_concat]
  simp [h]
theorem gstep_other {k : Int} {S : List Pr} {q p : Pr} (h : q.1 ≠ p.1) : gstep k (S ++ [q]) p = S ++ [q] ++ [p] := by
  unfold gstep
  rw [List.getLast?_concat]
  simp [h]
theorem list_end {α : Type} (l : List α) : l = [] ∨ ∃ S q, l = S ++ [q] := by
  rcases List.eq_nil_or_concat l with h | ⟨S, q, h⟩
  · exact .inl h
  · exact .inr ⟨S, q, by simpa using h⟩
theorem groups_snoc (k : Int) (l : List Pr) (p : Pr) : groups k (l ++ [p]) = gstep k (groups k l) p := by unfold groups; rw [List.foldl_append]; rfl
theorem gstep_two (k : Int) (S : List Pr) {q p : Pr} (h : q.1 = p.1) : gstep k (gstep k S q) p = gstep k S (q.1, two k q.2 p.2) := by
  rcases list_end S with rfl | ⟨S, r, rfl⟩
  · rw [gstep_nil, gstep_nil]
    exact gstep_same (S := []) h
  · by_cases e : r.1 = q.1
    · rw [gstep_same e, gstep_same (q := (r.1, two k r.2 q.2)) (e.trans h), gstep_same (p := (q.1, two k q.2 p.2)) e]
      simp only [two_assoc]
    · rw [gstep_other e, gstep_other (p := (q.1, two k q.2 p.2)) e, gstep_same h]
theorem rev_ind2 {α : Type} {P : List α → Prop} (h0 : P []) (hs : ∀ l x, P l → P (l ++ [x])) (l : List α) : P l := by
  rw [← List.reverse_reverse l]
  induction l.reverse with
  | nil => exact h0
  | cons a t ih => rw [List.reverse_cons]; exact hs _ _ ih
theorem fold_groups (k : Int) (o B : List Pr) : (groups k B).foldl (gstep k) o = B.foldl (gstep k) o := by
  induction B using rev_ind2 with
  | h0 => rfl
  | hs B p ih =>
    rw [groups_snoc, List.foldl_append]
    rcases list_end (groups k B) with e | ⟨G, q, e⟩
    · rw [e] at ih
      rw [e, gstep_nil, ← ih]; rfl
    · rw [e] at ih
      rw [List.foldl_append] at ih
      rw [e, ← ih]
      by_cases h : q.1 = p.1
      · rw [gstep_same h, List.foldl_append]
        exact (gstep_two k _ h).symm
      · rw [gstep_other h, List.foldl_append, List.foldl_append]
theorem groups_groups (k : Int) (l : List Pr) : groups k (groups k l) = groups k l := fold_groups k [] l
theorem groups_parts (k : Int) (A B : List Pr) : groups k (groups k A ++ groups k B) = groups k (A ++ B) := by
  show (groups k A ++ groups k B).foldl (gstep k) [] = (A ++ B).foldl (gstep k) []
  rw [List.foldl_append, List.foldl_append, fold_groups k [] A, fold_groups]
end Go.Proofs.YtjkggijkccbcpaaDoor
/- Groups of pairs that rise: their keys rise, none is there twice, none is lost. -/
namespace Go.Proofs.YtjkggijkccbcpaaDoor
open Go.RowKit

theorem klt_key {a b c d : Pr} (h1 : a.1 = c.1) (h2 : b.1 = d.1) : klt a b = klt c d := by unfold klt; rw [h1, h2]
theorem mem_gstep {k : Int} {out : List Pr} {p q : Pr} (h : q ∈ gstep k out p) : (∃ x ∈ out, q.1 = x.1) ∨ q.1 = p.1 := by
  rcases list_end out with rfl | ⟨S, r, rfl⟩
  · rw [gstep_nil] at h
    right; rw [List.mem_singleton.1 h]
  · by_cases e : r.1 = p.1
    · rw [gstep_same e] at h
      rcases List.mem_append.1 h with h | h
      · exact .inl ⟨q, List.mem_append_left _ h, rfl⟩
      · exact .inl ⟨r, by simp, by rw [List.mem_singleton.1 h]⟩
    · rw [gstep_other e] at h
      rcases List.mem_append.1 h with h | h
      · exact .inl ⟨q, h, rfl⟩
      · right; rw [List.mem_singleton.1 h]
theorem gstep_mem {k : Int} {out : List Pr} {p x : Pr} (h : x ∈ out ∨ x = p) : ∃ q ∈ gstep k out p, q.1 = x.1 := by
  rcases list_end out with rfl | ⟨S, r, rfl⟩
  · rw [gstep_nil]
    rcases h with h | h
    · cases h
    · exact ⟨p, by simp, by rw [h]⟩
  · by_cases e : r.1 = p.1
    · rw [gstep_same e]
      rcases h with h | h
      · rcases List.mem_append.1 h with h | h
        · exact ⟨x, List.mem_append_left _ h, rfl⟩
        · exact ⟨(r.1, two k r.2 p.2), by simp, by rw [List.mem_singleton.1 h]⟩
      · exact ⟨(r.1, two k r.2 p.2), by simp, by rw [h]; exact e⟩
    · rw [gstep_other e]
      rcases h with h | h
      · exact ⟨x, List.mem_append_left _ h, rfl⟩
      · exact ⟨p, by simp, by rw [h]⟩
theorem groups_of (k : Int) : ∀ (l : List Pr), ∀ q ∈ groups k l, ∃ p ∈ l, q.1 = p.1 := by
  intro l
  induction l using rev_ind2 with
  | h0 => intro q h; simp [groups] at h
  | hs l p ih =>
    intro q h
    rw [groups_snoc] at h
    rcases mem_gstep h with ⟨x, hx, e⟩ | e
    · obtain ⟨y, hy, e2⟩ := ih x hx
      exact ⟨y, List.mem_append_left _ hy, e.trans e2⟩
    · exact ⟨p, by simp, e⟩
/-- none is lost -/
theorem groups_has (k : Int) : ∀ (l : List Pr), ∀ p ∈ l, ∃ q ∈ groups k l, q.1 = p.1 := by
  intro l
  induction l using rev_ind2 with
  | h0 => intro q h; cases h
  | hs l p ih =>
    intro x h
    rw [groups_snoc]
    rcases List.mem_append.1 h with h | h
    · obtain ⟨y, hy, e⟩ := ih x h
      obtain ⟨z, hz, e2⟩ := gstep_mem (k := k) (p := p) (.inl hy)
      exact ⟨z, hz, e2.trans e⟩
    · exact gstep_mem (.inr (List.mem_singleton.1 h))
/-- they rise -/
theorem groups_incr (k : Int) : ∀ (l : List Pr), Rise l → (groups k l).Pairwise fun a b => klt a b = true := by
  intro l
  induction l using rev_ind2 with
  | h0 => intro _; simp [groups]
  | hs l p ih =>
    intro h
    obtain ⟨h1, _, h2⟩ := Rise.append.1 h
    have h3 := ih h1
    have h4 := groups_of k l
    rw [groups_snoc]
    rcases list_end (groups k l) with e | ⟨S, q, e⟩
    · rw [e, gstep_nil]; simp
    · rw [e] at h3 h4 ⊢
      obtain ⟨p1, _, p3⟩ := List.pairwise_append.1 h3
      by_cases he : q.1 = p.1
      · rw [gstep_same he]
        refine List.pairwise_append.2 ⟨p1, by simp, fun a ha b hb => ?_⟩
        obtain rfl := List.mem_singleton.1 hb
        rw [klt_key (a := a) (b := (q.1, two k q.2 p.2)) (c := a) (d := q) rfl rfl]
        exact p3 a ha q (by simp)
      · rw [gstep_other he]
        have hq : klt q p = true := by
          obtain ⟨y, hy, ey⟩ := h4 q (by simp)
          have h5 := h2 y hy p (by simp)
          rw [← klt_key (a := p) (b := q) rfl ey] at h5
          rcases bl_tri q.1.toList p.1.toList with h6 | h6 | h6
          · exact h6
          · exact absurd (tl_inj h6) he
          · unfold klt at h5; rw [h6] at h5; cases h5
        refine List.pairwise_append.2 ⟨h3, by simp, fun a ha b hb => ?_⟩
        obtain rfl := List.mem_singleton.1 hb
        rcases List.mem_append.1 ha with ha | ha
        · exact klt_trans (p3 a ha q (by simp)) hq
        · rw [List.mem_singleton.1 ha]; exact hq
end Go.Proofs.YtjkggijkccbcpaaDoor
namespace Go.Proofs.YtjkggijkccbcpaaDoor
open Go.RowKit

/-- pairs that are sorted, then folded -/
def grp (k : Int) (l : List Pr) : List Pr := groups k (srt l)
/-- one pair more, put where it belongs -/
def insG (k : Int) (x : Pr) : List Pr → List Pr
  | [] => [x]
  | a :: l => if klt a x = true then a :: insG k x l else if a.1 = x.1 then (a.1, two k a.2 x.2) :: l else x :: a :: l
def Incr (l : List Pr) : Prop := l.Pairwise fun a b => klt a b = true
theorem Incr.tail {a : Pr} {l : List Pr} (h : Incr (a :: l)) : Incr l := (List.pairwise_cons.1 h).2
theorem Incr.head {a : Pr} {l : List Pr} (h : Incr (a :: l)) : ∀ b ∈ l, klt a b = true := (List.pairwise_cons.1 h).1
theorem klt_self {a b : Pr} (h : a.1 = b.1) : klt a b = false := by unfold klt; rw [h]; exact bl_irrefl _
theorem klt_or {a b : Pr} : klt a b = true ∨ a.1 = b.1 ∨ klt b a = true := by
  rcases bl_tri a.1.toList b.1.toList with h | h | h
  · exact .inl h
  · exact .inr (.inl (tl_inj h))
  · exact .inr (.inr h)
theorem insG_nil (k : Int) (x : Pr) : insG k x [] = [x] := by unfold insG; rfl
theorem insG_lt {k : Int} {x a : Pr} {l : List Pr} (h : klt a x = true) : insG k x (a :: l) = a :: insG k x l := by conv => lhs; unfold insG; rw [if_pos h]
theorem insG_eq {k : Int} {x a : Pr} {l : List Pr} (h : a.1 = x.1) : insG k x (a :: l) = (a.1, two k a.2 x.2) :: l := by
  conv => lhs; unfold insG; rw [if_neg (by rw [klt_self h]; decide), if_pos h]
theorem insG_gt {k : Int} {x a : Pr} {l : List Pr} (h : klt x a = true) : insG k x (a :: l) = x :: a :: l := by
  conv => lhs; unfold insG; rw [if_neg (by rw [klt_asymm h]; decide), if_neg (fun e => by rw [klt_self e.symm] at h; cases h)]
/-- a pair of another value, but the same key, goes to the same place -/
theorem mem_insG {k : Int} {x y : Pr} : ∀ {l : List Pr}, y ∈ insG k x l → y.1 = x.1 ∨ ∃ z ∈ l, y.1 = z.1
  | [], h => by rw [insG_nil] at h; left; rw [List.mem_singleton.1 h]
  | a :: l, h => by
    rcases klt_or (a := a) (b := x) with e | e | e
    · rw [insG_lt e] at h
      rcases List.mem_cons.1 h with h | h
      · exact .inr ⟨a, List.mem_cons_self, by rw [h]⟩
      · rcases mem_insG h with h | ⟨z, hz, h⟩
        · exact .inl h
        · exact .inr ⟨z, List.mem_cons_of_mem _ hz, h⟩
    · rw [insG_eq e] at h
      rcases List.mem_cons.1 h with h | h
      · exact .inr ⟨a, List.mem_cons_self, by rw [h]⟩
      · exact .inr ⟨y, List.mem_cons_of_mem _ h, rfl⟩
    · rw [insG_gt e] at h
      rcases List.mem_cons.1 h with h | h
      · exact .inl (by rw [h])
      · exact .inr ⟨y, h, rfl⟩
theorem insG_incr {k : Int} {x : Pr} : ∀ {l : List Pr}, Incr l → Incr (insG k x l)
  | [], _ => by rw [insG_nil]; exact List.pairwise_singleton _ _
  | a :: l, h => by
    rcases klt_or (a := a) (b := x) with e | e | e
    · rw [insG_lt e]
      refine List.pairwise_cons.2 ⟨fun b hb => ?_, insG_incr h.tail⟩
      rcases mem_insG hb with h1 | ⟨z, hz, h1⟩
      · rw [klt_key (a := a) (b := b) (c := a) (d := x) rfl h1]; exact e
      · rw [klt_key (a := a) (b := b) (c := a) (d := z) rfl h1]; exact h.head z hz
    · rw [insG_eq e]
      refine List.pairwise_cons.2 ⟨fun b hb => ?_, h.tail⟩
      rw [klt_key (a := (a.1, two k a.2 x.2)) (b := b) (c := a) (d := b) rfl rfl]
      exact h.head b hb
    · rw [insG_gt e]
      refine List.pairwise_cons.2 ⟨fun b hb => ?_, h⟩
      rcases List.mem_cons.1 hb with h1 | h1
      · rw [h1]; exact e
      · exact klt_trans e (h.head b h1)
/-- in whichever order -/
theorem insG_comm (k : Int) (x y : Pr) : ∀ (l : List Pr), insG k x (insG k y l) = insG k y (insG k x l)
  | [] => by
    rw [insG_nil, insG_nil]
    rcases klt_or (a := x) (b := y) with e | e | e
    · rw [insG_gt e, insG_lt e, insG_nil]
    · rw [insG_eq e.symm, insG_eq e, two_comm, e]
    · rw [insG_lt e, insG_gt e, insG_nil]
  | a :: l => by
    have ih := insG_comm k x y l
    rcases klt_or (a := a) (b := x) with ex | ex | ex <;> rcases klt_or (a := a) (b := y) with ey | ey | ey
    · rw [insG_lt ey, insG_lt ex, insG_lt ex, insG_lt ey, ih]
    · rw [insG_eq ey, insG_lt ex, insG_eq ey]
      rw [insG_lt (a := (a.1, two k a.2 y.2)) (by rw [klt_key (a := (a.1, two k a.2 y.2)) (b := x) (c := a) (d := x) rfl rfl]; exact ex)]
    · rw [insG_gt ey, insG_lt ex, insG_gt ey]
      have hyx : klt y x = true := klt_trans ey ex
      rw [insG_lt hyx, insG_lt ex]
    · rw [insG_lt ey, insG_eq ex, insG_eq ex]
      rw [insG_lt (a := (a.1, two k a.2 x.2)) (by rw [klt_key (a := (a.1, two k a.2 x.2)) (b := y) (c := a) (d := y) rfl rfl]; exact ey)]
    · rw [insG_eq ey, insG_eq ex, insG_eq (a := (a.1, two k a.2 y.2)) ex, insG_eq (a := (a.1, two k a.2 x.2)) ey]
      dsimp only
      rw [← two_assoc, ← two_assoc, two_comm k y.2 x.2]
    · have hyx : klt y x = true := by rw [klt_key (a := y) (b := x) (c := y) (d := a) rfl ex.symm]; exact ey
      rw [insG_gt ey, insG_eq ex, insG_lt hyx, insG_eq ex]
      rw [insG_gt (a := (a.1, two k a.2 x.2)) (by rw [klt_key (a := y) (b := (a.1, two k a.2 x.2)) (c := y) (d := a) rfl rfl]; exact ey)]
    · have hxy : klt x y = true := klt_trans ex ey
      rw [insG_lt ey, insG_gt ex, insG_gt ex, insG_lt hxy, insG_lt ey]
    · have hxy : klt x y = true := by rw [klt_key (a := x) (b := y) (c := x) (d := a) rfl ey.symm]; exact ex
      rw [insG_eq ey, insG_gt ex, insG_lt hxy, insG_eq ey]
      rw [insG_gt (a := (a.1, two k a.2 y.2)) (by rw [klt_key (a := x) (b := (a.1, two k a.2 y.2)) (c := x) (d := a) rfl rfl]; exact ex)]
    · rcases klt_or (a := x) (b := y) with e | e | e
      · rw [insG_gt ey, insG_gt ex, insG_gt e, insG_lt e, insG_gt ey]
      · rw [insG_gt ey, insG_gt ex, insG_eq e.symm, insG_eq e, two_comm, e]
      · rw [insG_gt ey, insG_gt ex, insG_lt e, insG_gt ex, insG_gt e]
/-- the canonical form -/
def sumG (k : Int) (o l : List Pr) : List Pr := l.foldl (fun s x => insG k x s) o
theorem sumG_perm {k : Int} {l m : List Pr} (h : l.Perm m) : ∀ o, sumG k o l = sumG k o m := by
  induction h with
  | nil => intro o; rfl
  | cons x _ ih => intro o; exact ih _
  | swap x y l =>
    intro o
    show sumG k (insG k x (insG k y o)) l = sumG k (insG k y (insG k x o)) l
    rw [insG_comm]
  | trans _ _ ih1 ih2 => intro o; rw [ih1, ih2]
theorem sumG_append (k : Int) (o a b : List Pr) : sumG k o (a ++ b) = sumG k (sumG k o a) b := List.foldl_append ..
theorem sumG_incr {k : Int} : ∀ (l o : List Pr), Incr o → Incr (sumG k o l)
  | [], _, h => h
  | x :: l, _, h => sumG_incr l _ (insG_incr h)
theorem insG_end {k : Int} {x : Pr} : ∀ {l : List Pr}, (∀ a ∈ l, klt a x = true) → insG k x l = l ++ [x]
  | [], _ => by rw [insG_nil]; rfl
  | a :: l, h => by rw [insG_lt (h a List.mem_cons_self), insG_end fun b hb => h b (List.mem_cons_of_mem _ hb)]; rfl
theorem sumG_self {k : Int} : ∀ (l o : List Pr), Incr (o ++ l) → sumG k o l = o ++ l
  | [], o, _ => by rw [List.append_nil]; rfl
  | x :: l, o, h => by
    have h1 := (List.pairwise_append.1 h).2.2
    show sumG k (insG k x o) l = _
    rw [insG_end fun a ha => h1 a ha x List.mem_cons_self, sumG_self l (o ++ [x]) (by rw [List.append_assoc]; exact h), List.append_assoc]
    rfl
/-- a step at the end of what rises -/
theorem gstep_insG {k : Int} {x : Pr} {o : List Pr} (h : Incr o) (hx : ∀ a ∈ o, klt x a = false) : gstep k o x = insG k x o := by
  rcases list_end o with rfl | ⟨S, q, rfl⟩
  · rw [gstep_nil, insG_nil]
  · have hS : ∀ a ∈ S, klt a q = true := fun a ha => (List.pairwise_append.1 h).2.2 a ha q (List.mem_singleton.2 rfl)
    have hq := hx q (by simp)
    by_cases e : q.1 = x.1
    · rw [gstep_same e]
      have key : ∀ (S : List Pr), (∀ a ∈ S, klt a q = true) → insG k x (S ++ [q]) = S ++ [(q.1, two k q.2 x.2)] := by
        intro S
        induction S with
        | nil => intro _; exact insG_eq e
        | cons a S ih =>
          intro hS
          have ha : klt a x = true := by rw [klt_key (a := a) (b := x) (c := a) (d := q) rfl e.symm]; exact hS a List.mem_cons_self
          rw [List.cons_append, insG_lt ha, ih fun b hb => hS b (List.mem_cons_of_mem _ hb)]
          rfl
      rw [key S hS]
    · rw [gstep_other e]
      have hqx : klt q x = true := by
        rcases klt_or (a := q) (b := x) with h1 | h1 | h1
        · exact h1
        · exact absurd h1 e
        · rw [h1] at hq; cases hq
      rw [insG_end]
      intro a ha
      rcases List.mem_append.1 ha with ha | ha
      · exact klt_trans (hS a ha) hqx
      · rw [List.mem_singleton.1 ha]; exact hqx
theorem groups_sumG (k : Int) : ∀ (l : List Pr), Rise l → groups k l = sumG k [] l := by
  intro l
  induction l using rev_ind2 with
  | h0 => intro _; rfl
  | hs l p ih =>
    intro h
    obtain ⟨h1, _, h2⟩ := Rise.append.1 h
    rw [groups_snoc, sumG_append, ← ih h1]
    refine gstep_insG (groups_incr k l h1) fun a ha => ?_
    obtain ⟨y, hy, e⟩ := groups_of k l a ha
    rw [klt_key (a := p) (b := a) (c := p) (d := y) rfl e]
    exact h2 y hy p (by simp)
/-- in whichever order -/
theorem grp_eq (k : Int) (l : List Pr) : grp k l = sumG k [] l := by
  unfold grp
  rw [groups_sumG k _ (srt_rise l)]
  exact sumG_perm (srt_perm l) []
theorem grp_perm {k : Int} {l m : List Pr} (h : l.Perm m) : grp k l = grp k m := by rw [grp_eq, grp_eq]; exact sumG_perm h []
theorem grp_incr (k : Int) (l : List Pr) : Incr (grp k l) := by rw [grp_eq]; exact sumG_incr l [] List.Pairwise.nil
/-- in whichever groups -/
theorem grp_part (k : Int) (a b : List Pr) : grp k (grp k a ++ b) = grp k (a ++ b) := by
  rw [grp_eq, grp_eq k (a ++ b), sumG_append, sumG_append, sumG_self (grp k a) [] (grp_incr k a), grp_eq k a]
  rfl
theorem grp_parts (k : Int) (a b : List Pr) : grp k (grp k a ++ grp k b) = grp k (a ++ b) := by
  rw [grp_part, grp_perm List.perm_append_comm, grp_part, grp_perm List.perm_append_comm]
theorem grp_flat (k : Int) : ∀ (ls : List (List Pr)), grp k (ls.map (grp k)).flatten = grp k ls.flatten
  | [] => rfl
  | l :: ls => by
    rw [List.map_cons, List.flatten_cons, List.flatten_cons, grp_part]
    rw [grp_perm List.perm_append_comm, ← grp_part, grp_flat k ls, grp_part, grp_perm List.perm_append_comm]
end Go.Proofs.YtjkggijkccbcpaaDoor
