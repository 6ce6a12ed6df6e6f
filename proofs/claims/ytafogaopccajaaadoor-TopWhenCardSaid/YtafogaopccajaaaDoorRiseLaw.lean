/- Groups of pairs that rise: their keys rise, none is there twice, none is lost. -/
import Derived.Test.YtafogaopccajaaaDoorFold
import Derived.Test.YtafogaopccajaaaDoorMergeLaw
set_option linter.unusedSimpArgs false
set_option linter.unusedVariables false
/- Plain laws of groups: in whichever groups values are folded, they are the same. -/
namespace Go.Proofs.YtafogaopccajaaaDoor
open Go.RowKit

theorem wrap64_eq (n : Int) : ∃ q : Int, wrap64 n = n - q * 18446744073709551616 := by
  refine ⟨(n + 9223372036854775808) / 18446744073709551616, ?_⟩
  unfold wrap64
  omega
theorem wrap64_of {m n q : Int} (h : m = n - q * 18446744073709551616) : wrap64 m = wrap64 n := by
  unfold wrap64
  omega
theorem two_comm (k a b : Int) : two k a b = two k b a := by
  unfold two
  rw [Int.add_comm a b, Int.min_comm, Int.max_comm]
theorem two_assoc (k a b c : Int) : two k a (two k b c) = two k (two k a b) c := by
  unfold two
  by_cases h : k = 2
  · simp only [h, if_true]; omega
  · by_cases h3 : k = 3
    · simp only [h, h3, if_true, if_false]; omega
    · simp only [h, h3, if_false]
      obtain ⟨q1, e1⟩ := wrap64_eq (b + c)
      obtain ⟨q2, e2⟩ := wrap64_eq (a + b)
      rw [e1, e2]
      refine wrap64_of (q := q1 - q2) ?_
      omega
/-- no two neighbours of one key -/
def Apart (l : List Pr) : Prop := ∀ (A B : List Pr) p q, l = A ++ p :: q :: B → p.1 ≠ q.1
theorem gstep_nil (k : Int) (p : Pr) : gstep k [] p = [p] := rfl
theorem gstep_same {k : Int} {S : List Pr} {q p : Pr} (h : q.1 = p.1) : gstep k (S ++ [q]) p = S ++ [(q.1, two k q.2 p.2)] := by
  unfold gstep
  rw [List.getLast?_concat]
  simp [h]
theorem gstep_other {k : Int} {S : List Pr} {q p : Pr} (h : q.1 ≠ p.1) : gstep k (S ++ [q]) p = S ++ [q] ++ [p] := by
  unfold gstep
  rw [List.getLast?_concat]
  simp [h]
theorem list_end {α : Type} (l : List α) : l = [] ∨ ∃ S q, l = S ++ [q] := by
  rcases List.eq_nil_or_concat l with h | ⟨S, q, h⟩
  · exact .inl h
  · exact .inr ⟨S, q, by simpa using h⟩
theorem groups_snoc (k : Int) (l : List Pr) (p : Pr) : groups k (l ++ [p]) = gstep k (groups k l) p := by unfold groups; rw [List.foldl_append]; rfl
theorem gstep_two (k : Int) (S : List Pr) {q p : Pr} (h : q.1 = p.1) : gstep k (gstep k S q) p = gstep k S (q.1, two k q.2 p.2) := by
  rcases list_end S with rfl | ⟨S, r, rfl⟩
  · rw [gstep_nil, gstep_nil]
    exact gstep_same (S := []) h
  · by_cases e : r.1 = q.1
    · rw [gstep_same e, gstep_same (q := (r.1, two k r.2 q.2)) (e.trans h), gstep_same (p := (q.1, two k q.2 p.2)) e]
      simp only [two_assoc]
    · rw [gstep_other e, gstep_other (p := (q.1, two k q.2 p.2)) e, gstep_same h]
theorem rev_ind2 {α : Type} {P : List α → Prop} (h0 : P []) (hs : ∀ l x, P l → P (l ++ [x])) (l : List α) : P l := by
  rw [← List.reverse_reverse l]
  induction l.reverse with
  | nil => exact h0
  | cons a t ih => rw [List.reverse_cons]; exact hs _ _ ih
theorem fold_groups (k : Int) (o B : List Pr) : (groups k B).foldl (gstep k) o = B.foldl (gstep k) o := by
  induction B using rev_ind2 with
  | h0 => rfl
  | hs B p ih =>
    rw [groups_snoc, List.foldl_append]
    rcases list_end (groups k B) with e | ⟨G, q, e⟩
    · rw [e] at ih
      rw [e, gstep_nil, ← ih]; rfl
    · rw [e] at ih
      rw [List.foldl_append] at ih
      rw [e, ← ih]
      by_cases h : q.1 = p.1
      · rw [gstep_same h, List.foldl_append]
        exact (gstep_two k _ h).symm
      · rw [gstep_other h, List.foldl_append, List.foldl_append]
theorem groups_groups (k : Int) (l : List Pr) : groups k (groups k l) = groups k l := fold_groups k [] l
theorem groups_parts (k : Int) (A B : List Pr) : groups k (groups k A ++ groups k B) = groups k (A ++ B) := by
  show (groups k A ++ groups k B).foldl (gstep k) [] = (A ++ B).foldl (gstep k) []
  rw [List.foldl_append, List.foldl_append, fold_groups k [] A, fold_groups]
end Go.Proofs.YtafogaopccajaaaDoor
namespace Go.Proofs.YtafogaopccajaaaDoor
open Go.RowKit

theorem klt_key {a b c d : Pr} (h1 : a.1 = c.1) (h2 : b.1 = d.1) : klt a b = klt c d := by unfold klt; rw [h1, h2]
theorem mem_gstep {k : Int} {out : List Pr} {p q : Pr} (h : q ∈ gstep k out p) : (∃ x ∈ out, q.1 = x.1) ∨ q.1 = p.1 := by
  rcases list_end out with rfl | ⟨S, r, rfl⟩
  · rw [gstep_nil] at h
    right; rw [List.mem_singleton.1 h]
  · by_cases e : r.1 = p.1
    · rw [gstep_same e] at h
      rcases List.mem_append.1 h with h | h
      · exact .inl ⟨q, List.mem_append_left _ h, rfl⟩
      · exact .inl ⟨r, by simp, by rw [List.mem_singleton.1 h]⟩
    · rw [gstep_other e] at h
      rcases List.mem_append.1 h with h | h
      · exact .inl ⟨q, h, rfl⟩
      · right; rw [List.mem_singleton.1 h]
theorem gstep_mem {k : Int} {out : List Pr} {p x : Pr} (h : x ∈ out ∨ x = p) : ∃ q ∈ gstep k out p, q.1 = x.1 := by
  rcases list_end out with rfl | ⟨S, r, rfl⟩
  · rw [gstep_nil]
    rcases h with h | h
    · cases h
    · exact ⟨p, by simp, by rw [h]⟩
  · by_cases e : r.1 = p.1
    · rw [gstep_same e]
      rcases h with h | h
      · rcases List.mem_append.1 h with h | h
        · exact ⟨x, List.mem_append_left _ h, rfl⟩
        · exact ⟨(r.1, two k r.2 p.2), by simp, by rw [List.mem_singleton.1 h]⟩
      · exact ⟨(r.1, two k r.2 p.2), by simp, by rw [h]; exact e⟩
    · rw [gstep_other e]
      rcases h with h | h
      · exact ⟨x, List.mem_append_left _ h, rfl⟩
      · exact ⟨p, by simp, by rw [h]⟩
theorem groups_of (k : Int) : ∀ (l : List Pr), ∀ q ∈ groups k l, ∃ p ∈ l, q.1 = p.1 := by
  intro l
  induction l using rev_ind2 with
  | h0 => intro q h; simp [groups] at h
  | hs l p ih =>
    intro q h
    rw [groups_snoc] at h
    rcases mem_gstep h with ⟨x, hx, e⟩ | e
    · obtain ⟨y, hy, e2⟩ := ih x hx
      exact ⟨y, List.mem_append_left _ hy, e.trans e2⟩
    · exact ⟨p, by simp, e⟩
/-- none is lost -/
theorem groups_has (k : Int) : ∀ (l : List Pr), ∀ p ∈ l, ∃ q ∈ groups k l, q.1 = p.1 := by
  intro l
  induction l using rev_ind2 with
  | h0 => intro q h; cases h
  | hs l p ih =>
    intro x h
    rw [groups_snoc]
    rcases List.mem_append.1 h with h | h
    · obtain ⟨y, hy, e⟩ := ih x h
      obtain ⟨z, hz, e2⟩ := gstep_mem (k := k) (p := p) (.inl hy)
      exact ⟨z, hz, e2.trans e⟩
    · exact gstep_mem (.inr (List.mem_singleton.1 h))
/-- they rise -/
theorem groups_incr (k : Int) : ∀ (l : List Pr), Rise l → (groups k l).Pairwise fun a b => klt a b = true := by
  intro l
  induction l using rev_ind2 with
  | h0 => intro _; simp [groups]
  | hs l p ih =>
    intro h
    obtain ⟨h1, _, h2⟩ := Rise.append.1 h
    have h3 := ih h1
    have h4 := groups_of k l
    rw [groups_snoc]
    rcases list_end (groups k l) with e | ⟨S, q, e⟩
    · rw [e, gstep_nil]; simp
    · rw [e] at h3 h4 ⊢
      obtain ⟨p1, _, p3⟩ := List.pairwise_append.1 h3
      by_cases he : q.1 = p.1
      · rw [gstep_same he]
        refine List.pairwise_append.2 ⟨p1, by simp, fun a ha b hb => ?_⟩
        obtain rfl := List.mem_singleton.1 hb
        rw [klt_key (a := a) (b := (q.1, two k q.2 p.2)) (c := a) (d := q) rfl rfl]
        exact p3 a ha q (by simp)
      · rw [gstep_other he]
        have hq : klt q p = true := by
          obtain ⟨y, hy, ey⟩ := h4 q (by simp)
          have h5 := h2 y hy p (by simp)
          rw [← klt_key (a := p) (b := q) rfl ey] at h5
          rcases bl_tri q.1.toList p.1.toList with h6 | h6 | h6
          · exact h6
          · exact absurd (tl_inj h6) he
          · unfold klt at h5; rw [h6] at h5; cases h5
        refine List.pairwise_append.2 ⟨h3, by simp, fun a ha b hb => ?_⟩
        obtain rfl := List.mem_singleton.1 hb
        rcases List.mem_append.1 ha with ha | ha
        · exact klt_trans (p3 a ha q (by simp)) hq
        · rw [List.mem_singleton.1 ha]; exact hq
end Go.Proofs.YtafogaopccajaaaDoor
