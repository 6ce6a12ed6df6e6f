/- folder: a run over pairs: its state; Out, Save. -/
import Derived.Test.YtafogaopccajaaaDoorFold
import Derived.Test.YtafogaopccajaaaDoorPair4
import Derived.Test.YtafogaopccajaaaDoorRefFold
set_option linter.unusedSimpArgs false
set_option linter.unusedVariables false
/- Plain laws of groups: in whichever groups values are folded, they are the same. -/
namespace Go.Proofs.YtafogaopccajaaaDoor
open Go.RowKit

theorem wrap64_eq (n : Int) : ∃ q : Int, wrap64 n = n - q * 18446744073709551616 := by
  refine ⟨(n + 9223372036854775808) / 18446744073709551616, ?_⟩
  unfold wrap64
  omega
theorem wrap64_of {m n q : Int} (h : m = n - q * 18446744073709551616) : wrap64 m = wrap64 n := by
  unfold wrap64
  omega
theorem two_comm (k a b : Int) : two k a b = two k b a := by
  unfold two
  rw [Int.add_comm a b, Int.min_comm, Int.max_comm]
theorem two_assoc (k a b c : Int) : two k a (two k b c) = two k (two k a b) c := by
  unfold two
  by_cases h : k = 2
  · simp only [h, if_true]; omega
  · by_cases h3 : k = 3
    · simp only [h, h3, if_true, if_false]; omega
    · simp only [h, h3, if_false]
      obtain ⟨q1, e1⟩ := wrap64_eq (b + c)
      obtain ⟨q2, e2⟩ := wrap64_eq (a + b)
      rw [e1, e2]
      refine wrap64_of (q := q1 - q2) ?_
      omega
/-- no two neighbours of one key -/
def Apart (l : List Pr) : Prop := ∀ (A B : List Pr) p q, l = A ++ p :: q :: B → p.1 ≠ q.1
theorem gstep_nil (k : Int) (p : Pr) : gstep k [] p = [p] := rfl
theorem gstep_same {k : Int} {S : List Pr} {q p : Pr} (h : q.1 = p.1) : gstep k (S ++ [q]) p = S ++ [(q.1, two k q.2 p.2)] := by
  unfold gstep
  rw [List.getLast?_concat]
  simp [h]
theorem gstep_other {k : Int} {S : List Pr} {q p : Pr} (h : q.1 ≠ p.1) : gstep k (S ++ [q]) p = S ++ [q] ++ [p] := by
  unfold gstep
  rw [List.getLast?_concat]
  simp [h]
theorem list_end {α : Type} (l : List α) : l = [] ∨ ∃ S q, l = S ++ [q] := by
  rcases List.eq_nil_or_concat l with h | ⟨S, q, h⟩
  · exact .inl h
  · exact .inr ⟨S, q, by simpa using h⟩
theorem groups_snoc (k : Int) (l : List Pr) (p : Pr) : groups k (l ++ [p]) = gstep k (groups k l) p := by unfold groups; rw [List.foldl_append]; rfl
theorem gstep_two (k : Int) (S : List Pr) {q p : Pr} (h : q.1 = p.1) : gstep k (gstep k S q) p = gstep k S (q.1, two k q.2 p.2) := by
  rcases list_end S with rfl | ⟨S, r, rfl⟩
  · rw [gstep_nil, gstep_nil]
    exact gstep_same (S := []) h
  · by_cases e : r.1 = q.1
    · rw [gstep_same e, gstep_same (q := (r.1, two k r.2 q.2)) (e.trans h), gstep_same (p := (q.1, two k q.2 p.2)) e]
      simp only [two_assoc]
    · rw [gstep_other e, gstep_other (p := (q.1, two k q.2 p.2)) e, gstep_same h]
theorem rev_ind2 {α : Type} {P : List α → Prop} (h0 : P []) (hs : ∀ l x, P l → P (l ++ [x])) (l : List α) : P l := by
  rw [← List.reverse_reverse l]
  induction l.reverse with
  | nil => exact h0
  | cons a t ih => rw [List.reverse_cons]; exact hs _ _ ih
theorem fold_groups (k : Int) (o B : List Pr) : (groups k B).foldl (gstep k) o = B.foldl (gstep k) o := by
  induction B using rev_ind2 with
  | h0 => rfl
  | hs B p ih =>
    rw [groups_snoc, List.foldl_append]
    rcases list_end (groups k B) with e | ⟨G, q, e⟩
    · rw [e] at ih
      rw [e, gstep_nil, ← ih]; rfl
    · rw [e] at ih
      rw [List.foldl_append] at ih
      rw [e, ← ih]
      by_cases h : q.1 = p.1
      · rw [gstep_same h, List.foldl_append]
        exact (gstep_two k _ h).symm
      · rw [gstep_other h, List.foldl_append, List.foldl_append]
theorem groups_groups (k : Int) (l : List Pr) : groups k (groups k l) = groups k l := fold_groups k [] l
theorem groups_parts (k : Int) (A B : List Pr) : groups k (groups k A ++ groups k B) = groups k (A ++ B) := by
  show (groups k A ++ groups k B).foldl (gstep k) [] = (A ++ B).foldl (gstep k) []
  rw [List.foldl_append, List.foldl_append, fold_groups k [] A, fold_groups]
end Go.Proofs.YtafogaopccajaaaDoor
namespace Go.Proofs.YtafogaopccajaaaDoor
open Go.RowKit

theorem two_bd (k a b : Int) (ha : -9223372036854775808 ≤ a ∧ a ≤ 9223372036854775807) (hb : -9223372036854775808 ≤ b ∧ b ≤ 9223372036854775807) : -9223372036854775808 ≤ two k a b ∧ two k a b ≤ 9223372036854775807 := by
  unfold two
  split
  · omega
  · split
    · omega
    · unfold wrap64; omega
theorem gstep_ok (k : Int) (out : List Pr) (p : Pr) (P : Pr → Prop) (h : ∀ x ∈ out, P x) (hp : P p) (h2 : ∀ q, P q → q.1 = p.1 → P (q.1, two k q.2 p.2)) : ∀ x ∈ gstep k out p, P x := by
  rcases list_end out with rfl | ⟨S, q, rfl⟩
  · rw [gstep_nil]
    intro x hx
    obtain rfl := List.mem_singleton.1 hx
    exact hp
  · by_cases he : q.1 = p.1
    · rw [gstep_same he]
      intro x hx
      rcases List.mem_append.1 hx with hx | hx
      · exact h x (List.mem_append_left _ hx)
      · obtain rfl := List.mem_singleton.1 hx
        exact h2 q (h q (by simp)) he
    · rw [gstep_other he]
      intro x hx
      rcases List.mem_append.1 hx with hx | hx
      · exact h x hx
      · obtain rfl := List.mem_singleton.1 hx
        exact hp
theorem groups_all (k : Int) (P : Pr → Prop) (h2 : ∀ q p, P q → P p → q.1 = p.1 → P (q.1, two k q.2 p.2)) : ∀ (l : List Pr), (∀ x ∈ l, P x) → ∀ x ∈ groups k l, P x := by
  intro l
  induction l using rev_ind2 with
  | h0 => intro _ x hx; simp [groups] at hx
  | hs l p ih =>
    intro h
    rw [groups_snoc]
    exact gstep_ok k _ p P (ih fun x hx => h x (List.mem_append_left _ hx)) (h p (by simp)) fun q hq he => h2 q p hq (h p (by simp)) he
theorem okP.groups {l : List Pr} (h : okP l) (k : Int) : okP (groups k l) :=
  ⟨Nat.le_trans (groups_length k l) h.1, groups_all k (fun p => p.1.size ≤ 100000 ∧ -9223372036854775808 ≤ p.2 ∧ p.2 ≤ 9223372036854775807) (fun q p hq hp _ => ⟨hq.1, two_bd k q.2 p.2 hq.2 hp.2⟩) l h.2⟩
theorem okP.sub {l m : List Pr} (h : okP l) (hs : m.Sublist l) : okP m := ⟨Nat.le_trans hs.length_le h.1, fun p hp => h.2 p (hs.subset hp)⟩
/-- the run in block g: its kind, the pairs, how far it is, what is out -/
structure RunAt (w : World) (base g : Nat) (kind : Int) (L : List Pr) (n : Nat) (out : List Pr) (la : Option Addr) (lc : Nat) (va : Value) : Prop where
  bk : Bk w g [.int .i64 kind, .slice la L.length lc, .int .i64 n, va]
  lo : base ≤ g
  sl : Sl 2 encP w la L
  own : Own 2 encP 54 w base va out
  apart : va.ownBlock ≠ some g ∧ ∀ b off, la = some ⟨b, off, none⟩ → b ≠ g ∧ va.ownBlock ≠ some b
  at_le : n ≤ L.length
theorem RunAt.later {w w' : World} {base g : Nat} {kind : Int} {L : List Pr} {n : Nat} {out : List Pr} {la : Option Addr} {lc : Nat} {va : Value} (h : RunAt w base g kind L n out la lc va) (hb : Below w.heap.size w w') : RunAt w' base g kind L n out la lc va :=
  ⟨h.bk.later hb, h.lo, h.sl.later hb (Nat.le_refl _), h.own.later hb, h.apart, h.at_le⟩
theorem Out_any {base g : Nat} {kind : Int} {L : List Pr} {n : Nat} {out : List Pr} {la : Option Addr} {lc : Nat} {va : Value} (w : World) (hg : GT w) (h : RunAt w base g kind L n out la lc va) (hok : okP out) :
    Calls Tryd.prog 26 #[.pointer (some ⟨g, 0, none⟩)] w fun e w' => e = .returned (.string (tx (textP out))) ∧ Below w.heap.size w w' := by
  obtain ⟨oa, oc, rfl⟩ := id h.own.1
  have c3 := h.bk.get (j := 3) rfl
  have HT := hide (Text_any oa oc out w hg hok (h.own.sl encP_len))
  clear h hok hg
  go_enter Tryd.func26, Tryd.ntmps26
  go_wp2_with fail
  refine HT.out.mono ?_
  rintro e w1 ⟨rfl, b1⟩
  have HB := hide b1
  clear b1 HT
  go_wp2
  go_ret
  exact ⟨rfl, HB.out⟩
def saveP (n : Nat) (out : List Pr) : List UInt8 := Lib.itoa (n : Int) ++ 10 :: textP out
end Go.Proofs.YtafogaopccajaaaDoor
