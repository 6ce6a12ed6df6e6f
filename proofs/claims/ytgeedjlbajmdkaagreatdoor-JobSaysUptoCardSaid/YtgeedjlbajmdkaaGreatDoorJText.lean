/- The text of a job's parts: job.quote, job.text. -/
import Derived.Test.YtgeedjlbajmdkaaGreatDoorFold
import Derived.Test.YtgeedjlbajmdkaaGreatDoorSort
import Derived.Test.YtgeedjlbajmdkaaGreatDoorPairSum
import Derived.Test.YtgeedjlbajmdkaaGreatDoorExpr8
import Derived.Test.YtgeedjlbajmdkaaGreatDoorExpr6
import Derived.Test.YtgeedjlbajmdkaaGreatDoorNamesM
import Derived.Test.YtgeedjlbajmdkaaGreatDoorBuild
import Derived.Test.YtgeedjlbajmdkaaGreatDoorPair2
import Derived.Test.YtgeedjlbajmdkaaGreatDoorErr
import Derived.Lib.QuietBelow
import Derived.StillTail
import Derived.Deep.RegionHeld3
import Derived.Test.YtgeedjlbajmdkaaGreatDoorExpr7
import Derived.Test.YtgeedjlbajmdkaaGreatDoorPair4
set_option linter.unusedSimpArgs false
set_option linter.unusedVariables false
/- Plain laws of groups: in whichever groups values are folded, they are the same. -/
namespace Go.Proofs.YtgeedjlbajmdkaaGreatDoor
open Go.RowKit

theorem wrap64_eq (n : Int) : ∃ q : Int, wrap64 n = n - q * 18446744073709551616 := by
  refine ⟨(n + 9223372036854775808) / 18446744073709551616, ?_⟩
  unfold wrap64
  omega
theorem wrap64_of {m n q : Int} (h : m = n - q * 18446744073709551616) : wrap64 m = wrap64 n := by
  unfold wrap64
  omega
theorem two_comm (k a b : Int) : two k a b = two k b a := by
  unfold two
  rw [Int.add_comm a b, Int.min_comm, Int.max_comm]
theorem two_assoc (k a b c : Int) : two k a (two k b c) = two k (two k a b) c := by
  unfold two
  by_cases h : k = 2
  · simp only [h, if_true]; omega
  · by_cases h3 : k = 3
    · simp only [h, h3, if_true, if_false]; omega
    · simp only [h, h3, if_false]
      obtain ⟨q1, e1⟩ := wrap64_eq (b + c)
      obtain ⟨q2, e2⟩ := wrap64_eq (a + b)
      rw [e1, e2]
      refine wrap64_of (q := q1 - q2) ?_
      omega
/-- no two neighbours of one key -/
def Apart (l : List Pr) : Prop := ∀ (A B : List Pr) p q, l = A ++ p :: q :: B → p.1 ≠ q.1
theorem gstep_nil (k : Int) (p : Pr) : gstep k [] p = [p] := rfl
theorem gstep_same {k : Int} {S : List Pr} {q p : Pr} (h : q.1 = p.1) : gstep k (S ++ [q]) p = S ++ [(q.1, two k q.2 p.2)] := by
  unfold gstep
  rw [List.getLast?_concat]
  simp [h]
theorem gstep_other {k : Int} {S : List Pr} {q p : Pr} (h : q.1 ≠ p.1) : gstep k (S ++ [q]) p = S ++ [q] ++ [p] := by
  unfold gstep
  rw [List.getLast?_concat]
  simp [h]
theorem list_end {α : Type} (l : List α) : l = [] ∨ ∃ S q, l = S ++ [q] := by
  rcases List.eq_nil_or_concat l with h | ⟨S, q, h⟩
  · exact .inl h
  · exact .inr ⟨S, q, by simpa using h⟩
theorem groups_snoc (k : Int) (l : List Pr) (p : Pr) : groups k (l ++ [p]) = gstep k (groups k l) p := by unfold groups; rw [List.foldl_append]; rfl
theorem gstep_two (k : Int) (S : List Pr) {q p : Pr} (h : q.1 = p.1) : gstep k (gstep k S q) p = gstep k S (q.1, two k q.2 p.2) := by
  rcases list_end S with rfl | ⟨S, r, rfl⟩
  · rw [gstep_nil, gstep_nil]
    exact gstep_same (S := []) h
  · by_cases e : r.1 = q.1
    · rw [gstep_same e, gstep_same (q := (r.1, two k r.2 q.2)) (e.trans h), gstep_same (p := (q.1, two k q.2 p.2)) e]
      simp only [two_assoc]
    · rw [gstep_other e, gstep_other (p := (q.1, two k q.2 p.2)) e, gstep_same h]
theorem rev_ind2 {α : Type} {P : List α → Prop} (h0 : P []) (hs : ∀ l x, P l → P (l ++ [x])) (l : List α) : P l := by
  rw [← List.reverse_reverse l]
  induction l.reverse with
  | nil => exact h0
  | cons a t ih => rw [List.reverse_cons]; exact hs _ _ ih
theorem fold_groups (k : Int) (o B : List Pr) : (groups k B).foldl (gstep k) o = B.foldl (gstep k) o := by
  induction B using rev_ind2 with
  | h0 => rfl
  | hs B p ih =>
    rw [groups_snoc, List.foldl_append]
    rcases list_end (groups k B) with e | ⟨G, q, e⟩
    · rw [e] at ih
      rw [e, gstep_nil, ← ih]; rfl
    · rw [e] at ih
      rw [List.foldl_append] at ih
      rw [e, ← ih]
      by_cases h : q.1 = p.1
      · rw [gstep_same h, List.foldl_append]
        exact (gstep_two k _ h).symm
      · rw [gstep_other h, List.foldl_append, List.foldl_append]
theorem groups_groups (k : Int) (l : List Pr) : groups k (groups k l) = groups k l := fold_groups k [] l
theorem groups_parts (k : Int) (A B : List Pr) : groups k (groups k A ++ groups k B) = groups k (A ++ B) := by
  show (groups k A ++ groups k B).foldl (gstep k) [] = (A ++ B).foldl (gstep k) []
  rw [List.foldl_append, List.foldl_append, fold_groups k [] A, fold_groups]
end Go.Proofs.YtgeedjlbajmdkaaGreatDoor
/- Groups of pairs that rise: their keys rise, none is there twice, none is lost. -/
namespace Go.Proofs.YtgeedjlbajmdkaaGreatDoor
open Go.RowKit

theorem klt_key {a b c d : Pr} (h1 : a.1 = c.1) (h2 : b.1 = d.1) : klt a b = klt c d := by unfold klt; rw [h1, h2]
theorem mem_gstep {k : Int} {out : List Pr} {p q : Pr} (h : q ∈ gstep k out p) : (∃ x ∈ out, q.1 = x.1) ∨ q.1 = p.1 := by
  rcases list_end out with rfl | ⟨S, r, rfl⟩
  · rw [gstep_nil] at h
    right; rw [List.mem_singleton.1 h]
  · by_cases e : r.1 = p.1
    · rw [gstep_same e] at h
      rcases List.mem_append.1 h with h | h
      · exact .inl ⟨q, List.mem_append_left _ h, rfl⟩
      · exact .inl ⟨r, by simp, by rw [List.mem_singleton.1 h]⟩
    · rw [gstep_other e] at h
      rcases List.mem_append.1 h with h | h
      · exact .inl ⟨q, h, rfl⟩
      · right; rw [List.mem_singleton.1 h]
theorem gstep_mem {k : Int} {out : List Pr} {p x : Pr} (h : x ∈ out ∨ x = p) : ∃ q ∈ gstep k out p, q.1 = x.1 := by
  rcases list_end out with rfl | ⟨S, r, rfl⟩
  · rw [gstep_nil]
    rcases h with h | h
    · cases h
    · exact ⟨p, by simp, by rw [h]⟩
  · by_cases e : r.1 = p.1
    · rw [gstep_same e]
      rcases h with h | h
      · rcases List.mem_append.1 h with h | h
        · exact ⟨x, List.mem_append_left _ h, rfl⟩
        · exact ⟨(r.1, two k r.2 p.2), by simp, by rw [List.mem_singleton.1 h]⟩
      · exact ⟨(r.1, two k r.2 p.2), by simp, by rw [h]; exact e⟩
    · rw [gstep_other e]
      rcases h with h | h
      · exact ⟨x, List.mem_append_left _ h, rfl⟩
      · exact ⟨p, by simp, by rw [h]⟩
theorem groups_of (k : Int) : ∀ (l : List Pr), ∀ q ∈ groups k l, ∃ p ∈ l, q.1 = p.1 := by
  intro l
  induction l using rev_ind2 with
  | h0 => intro q h; simp [groups] at h
  | hs l p ih =>
    intro q h
    rw [groups_snoc] at h
    rcases mem_gstep h with ⟨x, hx, e⟩ | e
    · obtain ⟨y, hy, e2⟩ := ih x hx
      exact ⟨y, List.mem_append_left _ hy, e.trans e2⟩
    · exact ⟨p, by simp, e⟩
/-- none is lost -/
theorem groups_has (k : Int) : ∀ (l : List Pr), ∀ p ∈ l, ∃ q ∈ groups k l, q.1 = p.1 := by
  intro l
  induction l using rev_ind2 with
  | h0 => intro q h; cases h
  | hs l p ih =>
    intro x h
    rw [groups_snoc]
    rcases List.mem_append.1 h with h | h
    · obtain ⟨y, hy, e⟩ := ih x h
      obtain ⟨z, hz, e2⟩ := gstep_mem (k := k) (p := p) (.inl hy)
      exact ⟨z, hz, e2.trans e⟩
    · exact gstep_mem (.inr (List.mem_singleton.1 h))
/-- they rise -/
theorem groups_incr (k : Int) : ∀ (l : List Pr), Rise l → (groups k l).Pairwise fun a b => klt a b = true := by
  intro l
  induction l using rev_ind2 with
  | h0 => intro _; simp [groups]
  | hs l p ih =>
    intro h
    obtain ⟨h1, _, h2⟩ := Rise.append.1 h
    have h3 := ih h1
    have h4 := groups_of k l
    rw [groups_snoc]
    rcases list_end (groups k l) with e | ⟨S, q, e⟩
    · rw [e, gstep_nil]; simp
    · rw [e] at h3 h4 ⊢
      obtain ⟨p1, _, p3⟩ := List.pairwise_append.1 h3
      by_cases he : q.1 = p.1
      · rw [gstep_same he]
        refine List.pairwise_append.2 ⟨p1, by simp, fun a ha b hb => ?_⟩
        obtain rfl := List.mem_singleton.1 hb
        rw [klt_key (a := a) (b := (q.1, two k q.2 p.2)) (c := a) (d := q) rfl rfl]
        exact p3 a ha q (by simp)
      · rw [gstep_other he]
        have hq : klt q p = true := by
          obtain ⟨y, hy, ey⟩ := h4 q (by simp)
          have h5 := h2 y hy p (by simp)
          rw [← klt_key (a := p) (b := q) rfl ey] at h5
          rcases bl_tri q.1.toList p.1.toList with h6 | h6 | h6
          · exact h6
          · exact absurd (tl_inj h6) he
          · unfold klt at h5; rw [h6] at h5; cases h5
        refine List.pairwise_append.2 ⟨h3, by simp, fun a ha b hb => ?_⟩
        obtain rfl := List.mem_singleton.1 hb
        rcases List.mem_append.1 ha with ha | ha
        · exact klt_trans (p3 a ha q (by simp)) hq
        · rw [List.mem_singleton.1 ha]; exact hq
end Go.Proofs.YtgeedjlbajmdkaaGreatDoor
/- Groups of sorted pairs: in whichever order, and in whichever groups, they are the same. -/
namespace Go.Proofs.YtgeedjlbajmdkaaGreatDoor
open Go.RowKit

/-- pairs that are sorted, then folded -/
def grp (k : Int) (l : List Pr) : List Pr := groups k (srt l)
/-- one pair more, put where it belongs -/
def insG (k : Int) (x : Pr) : List Pr → List Pr
  | [] => [x]
  | a :: l => if klt a x = true then a :: insG k x l else if a.1 = x.1 then (a.1, two k a.2 x.2) :: l else x :: a :: l
def Incr (l : List Pr) : Prop := l.Pairwise fun a b => klt a b = true
theorem Incr.tail {a : Pr} {l : List Pr} (h : Incr (a :: l)) : Incr l := (List.pairwise_cons.1 h).2
theorem Incr.head {a : Pr} {l : List Pr} (h : Incr (a :: l)) : ∀ b ∈ l, klt a b = true := (List.pairwise_cons.1 h).1
theorem klt_self {a b : Pr} (h : a.1 = b.1) : klt a b = false := by unfold klt; rw [h]; exact bl_irrefl _
theorem klt_or {a b : Pr} : klt a b = true ∨ a.1 = b.1 ∨ klt b a = true := by
  rcases bl_tri a.1.toList b.1.toList with h | h | h
  · exact .inl h
  · exact .inr (.inl (tl_inj h))
  · exact .inr (.inr h)
theorem insG_nil (k : Int) (x : Pr) : insG k x [] = [x] := by unfold insG; rfl
theorem insG_lt {k : Int} {x a : Pr} {l : List Pr} (h : klt a x = true) : insG k x (a :: l) = a :: insG k x l := by conv => lhs; unfold insG; rw [if_pos h]
theorem insG_eq {k : Int} {x a : Pr} {l : List Pr} (h : a.1 = x.1) : insG k x (a :: l) = (a.1, two k a.2 x.2) :: l := by
  conv => lhs; unfold insG; rw [if_neg (by rw [klt_self h]; decide), if_pos h]
theorem insG_gt {k : Int} {x a : Pr} {l : List Pr} (h : klt x a = true) : insG k x (a :: l) = x :: a :: l := by
  conv => lhs; unfold insG; rw [if_neg (by rw [klt_asymm h]; decide), if_neg (fun e => by rw [klt_self e.symm] at h; cases h)]
/-- a pair of another value, but the same key, goes to the same place -/
theorem mem_insG {k : Int} {x y : Pr} : ∀ {l : List Pr}, y ∈ insG k x l → y.1 = x.1 ∨ ∃ z ∈ l, y.1 = z.1
  | [], h => by rw [insG_nil] at h; left; rw [List.mem_singleton.1 h]
  | a :: l, h => by
    rcases klt_or (a := a) (b := x) with e | e | e
    · rw [insG_lt e] at h
      rcases List.mem_cons.1 h with h | h
      · exact .inr ⟨a, List.mem_cons_self, by rw [h]⟩
      · rcases mem_insG h with h | ⟨z, hz, h⟩
        · exact .inl h
        · exact .inr ⟨z, List.mem_cons_of_mem _ hz, h⟩
    · rw [insG_eq e] at h
      rcases List.mem_cons.1 h with h | h
      · exact .inr ⟨a, List.mem_cons_self, by rw [h]⟩
      · exact .inr ⟨y, List.mem_cons_of_mem _ h, rfl⟩
    · rw [insG_gt e] at h
      rcases List.mem_cons.1 h with h | h
      · exact .inl (by rw [h])
      · exact .inr ⟨y, h, rfl⟩
theorem insG_incr {k : Int} {x : Pr} : ∀ {l : List Pr}, Incr l → Incr (insG k x l)
  | [], _ => by rw [insG_nil]; exact List.pairwise_singleton _ _
  | a :: l, h => by
    rcases klt_or (a := a) (b := x) with e | e | e
    · rw [insG_lt e]
      refine List.pairwise_cons.2 ⟨fun b hb => ?_, insG_incr h.tail⟩
      rcases mem_insG hb with h1 | ⟨z, hz, h1⟩
      · rw [klt_key (a := a) (b := b) (c := a) (d := x) rfl h1]; exact e
      · rw [klt_key (a := a) (b := b) (c := a) (d := z) rfl h1]; exact h.head z hz
    · rw [insG_eq e]
      refine List.pairwise_cons.2 ⟨fun b hb => ?_, h.tail⟩
      rw [klt_key (a := (a.1, two k a.2 x.2)) (b := b) (c := a) (d := b) rfl rfl]
      exact h.head b hb
    · rw [insG_gt e]
      refine List.pairwise_cons.2 ⟨fun b hb => ?_, h⟩
      rcases List.mem_cons.1 hb with h1 | h1
      · rw [h1]; exact e
      · exact klt_trans e (h.head b h1)
/-- in whichever order -/
theorem insG_comm (k : Int) (x y : Pr) : ∀ (l : List Pr), insG k x (insG k y l) = insG k y (insG k x l)
  | [] => by
    rw [insG_nil, insG_nil]
    rcases klt_or (a := x) (b := y) with e | e | e
    · rw [insG_gt e, insG_lt e, insG_nil]
    · rw [insG_eq e.symm, insG_eq e, two_comm, e]
    · rw [insG_lt e, insG_gt e, insG_nil]
  | a :: l => by
    have ih := insG_comm k x y l
    rcases klt_or (a := a) (b := x) with ex | ex | ex <;> rcases klt_or (a := a) (b := y) with ey | ey | ey
    · rw [insG_lt ey, insG_lt ex, insG_lt ex, insG_lt ey, ih]
    · rw [insG_eq ey, insG_lt ex, insG_eq ey]
      rw [insG_lt (a := (a.1, two k a.2 y.2)) (by rw [klt_key (a := (a.1, two k a.2 y.2)) (b := x) (c := a) (d := x) rfl rfl]; exact ex)]
    · rw [insG_gt ey, insG_lt ex, insG_gt ey]
      have hyx : klt y x = true := klt_trans ey ex
      rw [insG_lt hyx, insG_lt ex]
    · rw [insG_lt ey, insG_eq ex, insG_eq ex]
      rw [insG_lt (a := (a.1, two k a.2 x.2)) (by rw [klt_key (a := (a.1, two k a.2 x.2)) (b := y) (c := a) (d := y) rfl rfl]; exact ey)]
    · rw [insG_eq ey, insG_eq ex, insG_eq (a := (a.1, two k a.2 y.2)) ex, insG_eq (a := (a.1, two k a.2 x.2)) ey]
      dsimp only
      rw [← two_assoc, ← two_assoc, two_comm k y.2 x.2]
    · have hyx : klt y x = true := by rw [klt_key (a := y) (b := x) (c := y) (d := a) rfl ex.symm]; exact ey
      rw [insG_gt ey, insG_eq ex, insG_lt hyx, insG_eq ex]
      rw [insG_gt (a := (a.1, two k a.2 x.2)) (by rw [klt_key (a := y) (b := (a.1, two k a.2 x.2)) (c := y) (d := a) rfl rfl]; exact ey)]
    · have hxy : klt x y = true := klt_trans ex ey
      rw [insG_lt ey, insG_gt ex, insG_gt ex, insG_lt hxy, insG_lt ey]
    · have hxy : klt x y = true := by rw [klt_key (a := x) (b := y) (c := x) (d := a) rfl ey.symm]; exact ex
      rw [insG_eq ey, insG_gt ex, insG_lt hxy, insG_eq ey]
      rw [insG_gt (a := (a.1, two k a.2 y.2)) (by rw [klt_key (a := x) (b := (a.1, two k a.2 y.2)) (c := x) (d := a) rfl rfl]; exact ex)]
    · rcases klt_or (a := x) (b := y) with e | e | e
      · rw [insG_gt ey, insG_gt ex, insG_gt e, insG_lt e, insG_gt ey]
      · rw [insG_gt ey, insG_gt ex, insG_eq e.symm, insG_eq e, two_comm, e]
      · rw [insG_gt ey, insG_gt ex, insG_lt e, insG_gt ex, insG_gt e]
/-- the canonical form -/
def sumG (k : Int) (o l : List Pr) : List Pr := l.foldl (fun s x => insG k x s) o
theorem sumG_perm {k : Int} {l m : List Pr} (h : l.Perm m) : ∀ o, sumG k o l = sumG k o m := by
  induction h with
  | nil => intro o; rfl
  | cons x _ ih => intro o; exact ih _
  | swap x y l =>
    intro o
    show sumG k (insG k x (insG k y o)) l = sumG k (insG k y (insG k x o)) l
    rw [insG_comm]
  | trans _ _ ih1 ih2 => intro o; rw [ih1, ih2]
theorem sumG_append (k : Int) (o a b : List Pr) : sumG k o (a ++ b) = sumG k (sumG k o a) b := List.foldl_append ..
theorem sumG_incr {k : Int} : ∀ (l o : List Pr), Incr o → Incr (sumG k o l)
  | [], _, h => h
  | x :: l, _, h => sumG_incr l _ (insG_incr h)
theorem insG_end {k : Int} {x : Pr} : ∀ {l : List Pr}, (∀ a ∈ l, klt a x = true) → insG k x l = l ++ [x]
  | [], _ => by rw [insG_nil]; rfl
  | a :: l, h => by rw [insG_lt (h a List.mem_cons_self), insG_end fun b hb => h b (List.mem_cons_of_mem _ hb)]; rfl
theorem sumG_self {k : Int} : ∀ (l o : List Pr), Incr (o ++ l) → sumG k o l = o ++ l
  | [], o, _ => by rw [List.append_nil]; rfl
  | x :: l, o, h => by
    have h1 := (List.pairwise_append.1 h).2.2
    show sumG k (insG k x o) l = _
    rw [insG_end fun a ha => h1 a ha x List.mem_cons_self, sumG_self l (o ++ [x]) (by rw [List.append_assoc]; exact h), List.append_assoc]
    rfl
/-- a step at the end of what rises -/
theorem gstep_insG {k : Int} {x : Pr} {o : List Pr} (h : Incr o) (hx : ∀ a ∈ o, klt x a = false) : gstep k o x = insG k x o := by
  rcases list_end o with rfl | ⟨S, q, rfl⟩
  · rw [gstep_nil, insG_nil]
  · have hS : ∀ a ∈ S, klt a q = true := fun a ha => (List.pairwise_append.1 h).2.2 a ha q (List.mem_singleton.2 rfl)
    have hq := hx q (by simp)
    by_cases e : q.1 = x.1
    · rw [gstep_same e]
      have key : ∀ (S : List Pr), (∀ a ∈ S, klt a q = true) → insG k x (S ++ [q]) = S ++ [(q.1, two k q.2 x.2)] := by
        intro S
        induction S with
        | nil => intro _; exact insG_eq e
        | cons a S ih =>
          intro hS
          have ha : klt a x = true := by rw [klt_key (a := a) (b := x) (c := a) (d := q) rfl e.symm]; exact hS a List.mem_cons_self
          rw [List.cons_append, insG_lt ha, ih fun b hb => hS b (List.mem_cons_of_mem _ hb)]
          rfl
      rw [key S hS]
    · rw [gstep_other e]
      have hqx : klt q x = true := by
        rcases klt_or (a := q) (b := x) with h1 | h1 | h1
        · exact h1
        · exact absurd h1 e
        · rw [h1] at hq; cases hq
      rw [insG_end]
      intro a ha
      rcases List.mem_append.1 ha with ha | ha
      · exact klt_trans (hS a ha) hqx
      · rw [List.mem_singleton.1 ha]; exact hqx
theorem groups_sumG (k : Int) : ∀ (l : List Pr), Rise l → groups k l = sumG k [] l := by
  intro l
  induction l using rev_ind2 with
  | h0 => intro _; rfl
  | hs l p ih =>
    intro h
    obtain ⟨h1, _, h2⟩ := Rise.append.1 h
    rw [groups_snoc, sumG_append, ← ih h1]
    refine gstep_insG (groups_incr k l h1) fun a ha => ?_
    obtain ⟨y, hy, e⟩ := groups_of k l a ha
    rw [klt_key (a := p) (b := a) (c := p) (d := y) rfl e]
    exact h2 y hy p (by simp)
/-- in whichever order -/
theorem grp_eq (k : Int) (l : List Pr) : grp k l = sumG k [] l := by
  unfold grp
  rw [groups_sumG k _ (srt_rise l)]
  exact sumG_perm (srt_perm l) []
theorem grp_perm {k : Int} {l m : List Pr} (h : l.Perm m) : grp k l = grp k m := by rw [grp_eq, grp_eq]; exact sumG_perm h []
theorem grp_incr (k : Int) (l : List Pr) : Incr (grp k l) := by rw [grp_eq]; exact sumG_incr l [] List.Pairwise.nil
/-- in whichever groups -/
theorem grp_part (k : Int) (a b : List Pr) : grp k (grp k a ++ b) = grp k (a ++ b) := by
  rw [grp_eq, grp_eq k (a ++ b), sumG_append, sumG_append, sumG_self (grp k a) [] (grp_incr k a), grp_eq k a]
  rfl
theorem grp_parts (k : Int) (a b : List Pr) : grp k (grp k a ++ grp k b) = grp k (a ++ b) := by
  rw [grp_part, grp_perm List.perm_append_comm, grp_part, grp_perm List.perm_append_comm]
theorem grp_flat (k : Int) : ∀ (ls : List (List Pr)), grp k (ls.map (grp k)).flatten = grp k ls.flatten
  | [] => rfl
  | l :: ls => by
    rw [List.map_cons, List.flatten_cons, List.flatten_cons, grp_part]
    rw [grp_perm List.perm_append_comm, ← grp_part, grp_flat k ls, grp_part, grp_perm List.perm_append_comm]
end Go.Proofs.YtgeedjlbajmdkaaGreatDoor
/- Slices of pairs: those of a key lie in one; sorting and folding go by slices. -/
namespace Go.Proofs.YtgeedjlbajmdkaaGreatDoor
open Go.RowKit

/-- a test of the key alone -/
def ByKey (p : Pr → Bool) : Prop := ∀ a b : Pr, a.1 = b.1 → p a = p b
theorem filter_isK {p : Pr → Bool} (hp : ByKey p) (l : List Pr) (k : List UInt8) : (l.filter p).filter (isK k) = (l.filter (isK k)).filter p := by
  rw [List.filter_filter, List.filter_filter]
  congr 1
  funext a
  exact Bool.and_comm _ _
theorem srt_filter {p : Pr → Bool} (hp : ByKey p) (l : List Pr) : (srt l).filter p = srt (l.filter p) := by
  refine srt_of ((srt_rise l).sub List.filter_sublist) fun k => ?_
  rw [filter_isK hp, filter_isK hp, srt_same l k]
theorem insG_filter {p : Pr → Bool} (hp : ByKey p) {k : Int} {x : Pr} : ∀ (l : List Pr), Incr l → (insG k x l).filter p = if p x = true then insG k x (l.filter p) else l.filter p
  | [], _ => by
    rw [insG_nil]
    by_cases h : p x = true
    · rw [if_pos h, List.filter_cons_of_pos h, List.filter_nil, insG_nil]
    · rw [if_neg h, List.filter_cons_of_neg h]
  | a :: l, hi => by
    have ih := insG_filter hp (k := k) (x := x) l hi.tail
    rcases klt_or (a := a) (b := x) with e | e | e
    · rw [insG_lt e]
      by_cases ha : p a = true
      · rw [List.filter_cons_of_pos ha, List.filter_cons_of_pos ha, ih]
        by_cases hx : p x = true
        · rw [if_pos hx, if_pos hx, insG_lt e]
        · rw [if_neg hx, if_neg hx]
      · rw [List.filter_cons_of_neg ha, List.filter_cons_of_neg ha, ih]
    · have hpp := hp a x e
      have h2 : p (a.1, two k a.2 x.2) = p x := hp _ _ e
      rw [insG_eq e]
      by_cases hx : p x = true
      · rw [if_pos hx, List.filter_cons_of_pos (by rw [h2]; exact hx), List.filter_cons_of_pos (by rw [hpp]; exact hx), insG_eq e]
      · rw [if_neg hx, List.filter_cons_of_neg (by rw [h2]; exact hx), List.filter_cons_of_neg (by rw [hpp]; exact hx)]
    · rw [insG_gt e]
      by_cases hx : p x = true
      · rw [if_pos hx, List.filter_cons_of_pos hx]
        have hlt : ∀ b ∈ (a :: l).filter p, klt x b = true := by
          intro b hb
          rcases List.mem_cons.1 (List.mem_filter.1 hb).1 with h | h
          · rw [h]; exact e
          · exact klt_trans e (hi.head b h)
        generalize (a :: l).filter p = m at *
        rcases m with _ | ⟨b, m⟩
        · rw [insG_nil]
        · rw [insG_gt (hlt b List.mem_cons_self)]
      · rw [if_neg hx, List.filter_cons_of_neg hx]
theorem sumG_filter {p : Pr → Bool} (hp : ByKey p) {k : Int} : ∀ (l o : List Pr), Incr o → (sumG k o l).filter p = sumG k (o.filter p) (l.filter p)
  | [], _, _ => rfl
  | x :: l, o, ho => by
    show (sumG k (insG k x o) l).filter p = _
    rw [sumG_filter hp l _ (insG_incr ho), insG_filter hp o ho]
    by_cases hx : p x = true
    · rw [if_pos hx, List.filter_cons_of_pos hx]; rfl
    · rw [if_neg hx, List.filter_cons_of_neg hx]
theorem grp_filter {p : Pr → Bool} (hp : ByKey p) (k : Int) (l : List Pr) : (grp k l).filter p = grp k (l.filter p) := by
  rw [grp_eq, grp_eq, sumG_filter hp l [] List.Pairwise.nil]
  rfl
theorem grp_grp (k : Int) (l : List Pr) : grp k (grp k l) = grp k l := by
  have := grp_part k l []
  rwa [List.append_nil, List.append_nil] at this
/-- those of slice n, of so many -/
def inSlice (many : Int) (n : Nat) (p : Pr) : Bool := decide (sliceB p.1 many = n)
theorem inSlice_key (many : Int) (n : Nat) : ByKey (inSlice many n) := fun a b h => by unfold inSlice; rw [h]
/-- a job's slices of pairs -/
def cutP (fold : Int) (early : Bool) (many : Nat) (l : List Pr) : List (List Pr) :=
  (List.range many).map fun n => if early = true then groups fold ((srt l).filter (inSlice many n)) else (srt l).filter (inSlice many n)
theorem cutP_get {fold : Int} {early : Bool} {many n : Nat} {l : List Pr} (h : n < many) : (cutP fold early many l)[n]? = some (if early = true then grp fold (l.filter (inSlice many n)) else srt (l.filter (inSlice many n))) := by
  unfold cutP
  rw [List.getElem?_map, List.getElem?_range h]
  simp only [Option.map_some, srt_filter (inSlice_key _ _)]
  rfl
end Go.Proofs.YtgeedjlbajmdkaaGreatDoor
/- What a job makes of a record: the pairs of its rules. -/
namespace Go.Proofs.YtgeedjlbajmdkaaGreatDoor
open Go.RowKit

/-- a rule: of each record or of each word, if that is so, a pair -/
structure RuleV where
  each : Bool
  when_ : Int
  cond : ExprV
  txt : ByteArray
  key : ExprV
  val : ExprV
def cut20 (k : ByteArray) : ByteArray := k.extract 0 (min k.size 20)
/-- is it so? -/
def ifR (r : RuleV) (line it : ByteArray) (ws : List ByteArray) : Bool := r.when_ == 0 || (decide (strE r.cond line it ws = r.txt) == decide (r.when_ = 1))
def pairR (r : RuleV) (kind : Int) (line it : ByteArray) (ws : List ByteArray) : Pr := (cut20 (strE r.key line it ws), first kind (intE r.val line it ws))
def madeR (r : RuleV) (kind : Int) (line : ByteArray) (ws : List ByteArray) (it : ByteArray) : Option Pr := if ifR r line it ws = true then some (pairR r kind line it ws) else none
def itsR (r : RuleV) (ws : List ByteArray) : List ByteArray := if r.each = true then ws else [⟨#[]⟩]
/-- what a rule makes -/
def pairsR (r : RuleV) (kind : Int) (line : ByteArray) : List Pr := (itsR r (wordsB line)).filterMap (madeR r kind line (wordsB line))
/-- what a job makes -/
def pairsJ (rs : List RuleV) (kind : Int) (line : ByteArray) : List Pr := rs.flatMap fun r => pairsR r kind line
theorem pairsJ_succ {rs : List RuleV} {i : Nat} {r : RuleV} (kind : Int) (line : ByteArray) (h : rs[i]? = some r) : pairsJ (rs.take (i + 1)) kind line = pairsJ (rs.take i) kind line ++ pairsR r kind line := by
  obtain ⟨hlt, hx⟩ := List.getElem?_eq_some_iff.1 h
  unfold pairsJ
  rw [List.take_succ_eq_append_getElem hlt, hx, List.flatMap_append]
  simp
theorem pairsJ_one (r : RuleV) (kind : Int) (line : ByteArray) : pairsJ [r] kind line = pairsR r kind line := by simp [pairsJ]
theorem itsR_len (r : RuleV) (ws : List ByteArray) : (itsR r ws).length ≤ ws.length + 1 := by
  unfold itsR
  split
  · omega
  · simp
theorem pairsR_len (r : RuleV) (kind : Int) (line : ByteArray) : (pairsR r kind line).length ≤ (wordsB line).length + 1 :=
  Nat.le_trans (List.length_filterMap_le _ _) (itsR_len r _)
theorem filterMap_parts {α β : Type} {f g h : α → Option β} (hp : ∀ x, (f x = h x ∧ g x = none) ∨ (f x = none ∧ g x = h x)) : ∀ (l : List α), (l.filterMap f ++ l.filterMap g).Perm (l.filterMap h)
  | [] => List.Perm.refl _
  | x :: l => by
    have ih := filterMap_parts hp l
    rcases hp x with ⟨h1, h2⟩ | ⟨h1, h2⟩
    · rw [List.filterMap_cons_none h2]
      cases hx : h x with
      | none => rw [hx] at h1; rw [List.filterMap_cons_none h1, List.filterMap_cons_none hx]; exact ih
      | some y => rw [hx] at h1; rw [List.filterMap_cons_some h1, List.filterMap_cons_some hx]; exact List.Perm.cons _ ih
    · rw [List.filterMap_cons_none h1]
      cases hx : h x with
      | none => rw [hx] at h2; rw [List.filterMap_cons_none h2, List.filterMap_cons_none hx]; exact ih
      | some y =>
        rw [hx] at h2
        rw [List.filterMap_cons_some h2, List.filterMap_cons_some hx]
        exact List.perm_middle.trans (List.Perm.cons _ ih)
/-- always is: if it is so, and if it is not -/
theorem when_parts (e : Bool) (c c2 : ExprV) (t t2 : ByteArray) (k v : ExprV) (kind : Int) (line : ByteArray) :
    (pairsR ⟨e, 1, c, t, k, v⟩ kind line ++ pairsR ⟨e, 2, c, t, k, v⟩ kind line).Perm (pairsR ⟨e, 0, c2, t2, k, v⟩ kind line) := by
  unfold pairsR
  refine filterMap_parts (fun x => ?_) _
  unfold madeR ifR
  by_cases h : strE c line x (wordsB line) = t
  · left; simp [h, pairR]
  · right; simp [h, pairR]
def leB (a b : ByteArray) : Prop := Op.bytesLess b.toList a.toList = false
theorem leB_anti {a b : ByteArray} (h : leB a b) (h2 : leB b a) : a = b := by
  rcases bl_tri a.toList b.toList with e | e | e
  · unfold leB at h2; rw [e] at h2; cases h2
  · exact tl_inj e
  · unfold leB at h; rw [e] at h; cases h
theorem sorted_unique : ∀ {l m : List ByteArray}, l.Pairwise leB → m.Pairwise leB → l.Perm m → l = m
  | [], m, _, _, h => (List.nil_perm.1 h).symm
  | a :: l, m, h1, h2, h => by
    rcases m with _ | ⟨b, m⟩
    · exact absurd h.length_eq (by simp)
    · have hab : a = b := by
        have ha : a ∈ b :: m := h.subset List.mem_cons_self
        have hb : b ∈ a :: l := h.symm.subset List.mem_cons_self
        rcases List.mem_cons.1 ha with e | e
        · exact e
        · rcases List.mem_cons.1 hb with e2 | e2
          · exact e2.symm
          · exact leB_anti ((List.pairwise_cons.1 h1).1 b e2) ((List.pairwise_cons.1 h2).1 a e)
      subst hab
      rw [sorted_unique (List.pairwise_cons.1 h1).2 (List.pairwise_cons.1 h2).2 (List.perm_cons a |>.1 h)]
theorem srt_keys {l m : List Pr} (h : l.Perm m) : (srt l).map (·.1) = (srt m).map (·.1) := by
  have key : ∀ l : List Pr, ((srt l).map (·.1)).Pairwise leB := fun l => by
    rw [List.pairwise_map]
    exact (srt_rise l).imp fun h => h
  exact sorted_unique (key l) (key m) ((((srt_perm l).trans h).trans (srt_perm m).symm).map _)
end Go.Proofs.YtgeedjlbajmdkaaGreatDoor
/- What is wrong with a job (plain). -/
namespace Go.Proofs.YtgeedjlbajmdkaaGreatDoor
open Go.RowKit

/-- an empty condition -/
def blankE : ExprV → Bool
  | .mk k n s a => (k == 0) && ((n == 0) && (s.toList.isEmpty && a.isEmpty))
/-- what is wrong with a rule's condition -/
def condF (r : RuleV) : Int :=
  if r.when_ = 0 then (if r.txt.toList.isEmpty = true ∧ blankE r.cond = true then 0 else 3)
  else if r.when_ = 1 ∨ r.when_ = 2 then (if r.txt.size ≤ 20 ∧ decide (0 ≤ Lib.indexByte r.txt.data.toList 10) = false then faultE r.cond true r.each else 3)
  else 3
def ruleF (r : RuleV) : Int :=
  if condF r ≠ 0 then condF r else if faultE r.key true r.each ≠ 0 then faultE r.key true r.each else faultE r.val false r.each
def rulesF : List RuleV → Int
  | [] => 0
  | r :: l => if ruleF r ≠ 0 then ruleF r else rulesF l
def jobF (rs : List RuleV) (fold slices : Int) : Int :=
  if rs.length < 1 ∨ 4 < rs.length then 2 else if fold < 1 ∨ 4 < fold then 3 else if slices < 1 ∨ 4 < slices then 1 else rulesF rs
theorem condF_nn (r : RuleV) : 0 ≤ condF r := by
  unfold condF
  split
  · split <;> decide
  · split
    · split
      · exact faultE_nn _ _ _
      · decide
    · decide
theorem ruleF_nn (r : RuleV) : 0 ≤ ruleF r := by
  unfold ruleF
  split
  · exact condF_nn r
  · split
    · exact faultE_nn _ _ _
    · exact faultE_nn _ _ _
theorem rulesF_nn : ∀ l : List RuleV, 0 ≤ rulesF l
  | [] => Int.le_refl _
  | r :: l => by
    unfold rulesF
    split
    · exact ruleF_nn r
    · exact rulesF_nn l
theorem jobF_nn (rs : List RuleV) (fold slices : Int) : 0 ≤ jobF rs fold slices := by
  unfold jobF
  split
  · decide
  · split
    · decide
    · split
      · decide
      · exact rulesF_nn rs
theorem rulesF_drop {l : List RuleV} {i : Nat} {r : RuleV} (h : l[i]? = some r) : rulesF (l.drop i) = if ruleF r ≠ 0 then ruleF r else rulesF (l.drop (i + 1)) := by
  obtain ⟨hlt, hx⟩ := List.getElem?_eq_some_iff.1 h
  rw [List.drop_eq_getElem_cons hlt, hx]
  rfl
theorem rulesF_all : ∀ {l : List RuleV}, rulesF l = 0 → ∀ r ∈ l, ruleF r = 0
  | [], _, r, hr => by cases hr
  | a :: l, h, r, hr => by
    unfold rulesF at h
    split at h
    · rename_i h2; exact absurd h h2
    · rename_i h2
      rcases List.mem_cons.1 hr with rfl | hr
      · exact Classical.not_not.1 h2
      · exact rulesF_all h r hr
theorem rulesF_zero : ∀ {l : List RuleV}, (∀ r ∈ l, ruleF r = 0) → rulesF l = 0
  | [], _ => rfl
  | a :: l, h => by
    unfold rulesF
    rw [if_neg (by rw [h a List.mem_cons_self]; simp)]
    exact rulesF_zero fun r hr => h r (List.mem_cons_of_mem _ hr)
theorem fault_ok {e : ExprV} {text each : Bool} (h : faultE e text each = 0) : e.nodes ≤ 30 ∧ e.deep ≤ 5 ∧ shE e text each = true := by
  unfold faultE at h
  split at h
  · cases h
  · rename_i h1
    split at h
    · rename_i h2; exact ⟨by omega, by omega, h2⟩
    · cases h
/-- a rule that may be -/
structure RuleOk (r : RuleV) : Prop where
  key : r.key.nodes ≤ 30 ∧ r.key.deep ≤ 5 ∧ shE r.key true r.each = true
  val : r.val.nodes ≤ 30 ∧ r.val.deep ≤ 5 ∧ shE r.val false r.each = true
  cond : r.when_ ≠ 0 → r.cond.nodes ≤ 30 ∧ r.cond.deep ≤ 5 ∧ shE r.cond true r.each = true
  whn : r.when_ = 0 ∨ r.when_ = 1 ∨ r.when_ = 2
  txt : r.txt.size ≤ 20
theorem RuleOk.of {r : RuleV} (h : ruleF r = 0) : RuleOk r := by
  unfold ruleF at h
  split at h
  · rename_i h2; exact absurd h h2
  · rename_i h1
    split at h
    · rename_i h2; exact absurd h h2
    · rename_i h2
      have hc : condF r = 0 := Classical.not_not.1 h1
      have hk : faultE r.key true r.each = 0 := Classical.not_not.1 h2
      refine ⟨fault_ok hk, fault_ok h, fun hw => ?_, ?_, ?_⟩
      · unfold condF at hc
        rw [if_neg hw] at hc
        split at hc
        · split at hc
          · exact fault_ok hc
          · cases hc
        · cases hc
      · unfold condF at hc
        split at hc
        · left; assumption
        · split at hc
          · right; assumption
          · cases hc
      · unfold condF at hc
        split at hc
        · split at hc
          · rename_i h3
            have h4 : r.txt.toList = [] := List.isEmpty_iff.1 h3.1
            have h5 : r.txt.size = r.txt.toList.length := by rw [tl, tl_len]
            rw [h5, h4]; exact Nat.zero_le _
          · cases hc
        · split at hc
          · split at hc
            · rename_i h3; exact h3.1
            · cases hc
          · cases hc
theorem jobF_ok {rs : List RuleV} {fold slices : Int} (h : jobF rs fold slices = 0) : (1 ≤ rs.length ∧ rs.length ≤ 4) ∧ (1 ≤ fold ∧ fold ≤ 4) ∧ (1 ≤ slices ∧ slices ≤ 4) ∧ ∀ r ∈ rs, ruleF r = 0 := by
  unfold jobF at h
  split at h
  · cases h
  · split at h
    · cases h
    · split at h
      · cases h
      · exact ⟨by omega, by omega, by omega, rulesF_all h⟩
end Go.Proofs.YtgeedjlbajmdkaaGreatDoor
/- The text of a job, and how it is read (plain). -/
namespace Go.Proofs.YtgeedjlbajmdkaaGreatDoor
open Go.RowKit

/-- a text's bytes, those of '"' and of '\\' with '\\' ahead -/
def escB (l : List UInt8) : List UInt8 := l.flatMap fun c => if c = 34 ∨ c = 92 then [92, c] else [c]
def quoteL (l : List UInt8) : List UInt8 := 34 :: (escB l ++ [34])
def numPart (k n : Int) : List UInt8 := if k = 3 ∨ k = 6 ∨ k = 7 then 32 :: Lib.itoa n else []
def txtPart (k : Int) (s : ByteArray) : List UInt8 := if k = 4 then 32 :: quoteL s.data.toList else []
mutual
/-- the text of an expression -/
def textX : ExprV → List UInt8
  | .mk k n s a => nameK k ++ (numPart k n ++ (txtPart k s ++ textXs a))
def textXs : List ExprV → List UInt8
  | [] => []
  | x :: l => 32 :: (textX x ++ textXs l)
end
def eachT (b : Bool) : List UInt8 := if b = true then [101, 97, 99, 104, 32] else []
def whenT (r : RuleV) : List UInt8 :=
  if r.when_ = 0 then [] else (if r.when_ = 1 then [115, 97, 109, 101, 32] else [111, 116, 104, 101, 114, 32]) ++ (textX r.cond ++ (32 :: (quoteL r.txt.data.toList ++ [32])))
/-- the line of a rule -/
def ruleT (r : RuleV) : List UInt8 := eachT r.each ++ (whenT r ++ ([107, 101, 121, 32] ++ (textX r.key ++ ([32, 118, 97, 108, 32] ++ textX r.val))))
def foldK (k : Int) : List UInt8 :=
  if k = 1 then [115, 117, 109] else if k = 2 then [108, 101, 97, 115, 116] else if k = 3 then [103, 114, 101, 97, 116, 101, 115, 116] else if k = 4 then [99, 111, 117, 110, 116] else []
def headT (fold slices : Int) (early : Bool) : List UInt8 := foldK fold ++ (32 :: (Lib.itoa slices ++ (if early = true then [32, 101, 97, 114, 108, 121] else [])))
/-- the text of a job -/
def jobT (rs : List RuleV) (fold slices : Int) (early : Bool) : List UInt8 := headT fold slices early ++ (10 :: rs.flatMap fun r => ruleT r ++ [10])

/-- a word, what is behind it -/
def wordR (s : List UInt8) : List UInt8 × List UInt8 := ((cutAt 32 s).1, (cutAt 32 s).2.1)
/-- behind a '"': a text, what is behind it -/
def quoG : List UInt8 → Option (List UInt8 × List UInt8)
  | [] => none
  | [c] => if c = 34 then some ([], []) else none
  | c :: d :: l => if c = 92 then (quoG l).map fun p => (d :: p.1, p.2) else if c = 34 then some ([], d :: l) else (quoG (d :: l)).map fun p => (c :: p.1, p.2)
/-- a text in '"', what is behind it, is it none -/
def quotedR (s : List UInt8) : List UInt8 × List UInt8 × Bool :=
  match s with
  | [] => ([], [], true)
  | c :: l => if c = 34 then (match quoG l with
      | some (t, r) => (match r with
        | [] => (t, [], false)
        | d :: r' => if d = 32 then (t, r', false) else (t, d :: r', true))
      | none => ([], c :: l, true)) else ([], c :: l, true)
/-- the kind of a name -/
def kindN (w : List UInt8) : Int :=
  if w = nameK 1 then 1 else if w = nameK 2 then 2 else if w = nameK 3 then 3 else if w = nameK 4 then 4 else if w = nameK 5 then 5
  else if w = nameK 6 then 6 else if w = nameK 7 then 7 else if w = nameK 8 then 8 else if w = nameK 9 then 9 else if w = nameK 10 then 10 else 0
def manyK (k : Int) : Nat := if k = 6 ∨ k = 8 then 1 else if k = 5 ∨ k = 10 then 2 else 0
/-- kids, one behind the other, as long as nothing is wrong -/
def readKids (rd : List UInt8 → ExprV × List UInt8 × Bool) : Nat → List UInt8 → Bool → List ExprV × List UInt8 × Bool
  | 0, s, bad => ([], s, bad)
  | m + 1, s, bad => if bad = true then ([], s, bad) else ((rd s).1 :: (readKids rd m (rd s).2.1 (rd s).2.2).1, (readKids rd m (rd s).2.1 (rd s).2.2).2)
/-- the number behind a name, of the kinds that have one -/
def numR (k : Int) (s : List UInt8) : Int × List UInt8 × Bool := if k = 3 ∨ k = 6 ∨ k = 7 then (atoiV (wordR s).1, (wordR s).2, !numOk (wordR s).1) else (0, s, false)
def txtR (k : Int) (s : List UInt8) : List UInt8 × List UInt8 × Bool := if k = 4 then quotedR s else ([], s, false)
/-- what stands in an expression besides its kids -/
def ownX (s : List UInt8) : Int × Int × List UInt8 × List UInt8 × Bool :=
  (kindN (wordR s).1, (numR (kindN (wordR s).1) (wordR s).2).1, (txtR (kindN (wordR s).1) (numR (kindN (wordR s).1) (wordR s).2).2.1).1, (txtR (kindN (wordR s).1) (numR (kindN (wordR s).1) (wordR s).2).2.1).2.1,
    decide (kindN (wordR s).1 = 0) || ((numR (kindN (wordR s).1) (wordR s).2).2.2 || (txtR (kindN (wordR s).1) (numR (kindN (wordR s).1) (wordR s).2).2.1).2.2))
/-- an expression, what is behind it, is something wrong; so many floors may be under it -/
def readX : Nat → List UInt8 → Bool → ExprV × List UInt8 × Bool
  | 0, s, _ => (.mk (ownX s).1 (ownX s).2.1 (tx (ownX s).2.2.1) [], (ownX s).2.2.2.1, true)
  | f + 1, s, bad =>
    let c := readKids (fun s => readX f s false) (manyK (ownX s).1) (ownX s).2.2.2.1 (bad || (ownX s).2.2.2.2)
    (.mk (ownX s).1 (ownX s).2.1 (tx (ownX s).2.2.1) c.1, c.2.1, c.2.2)
/-- is this the next word? -/
def nextR (w s : List UInt8) : Bool := (w ++ [32]).isPrefixOf s
def afterR (w s : List UInt8) : List UInt8 := if nextR w s = true then s.drop (w.length + 1) else s
def wEach : List UInt8 := [101, 97, 99, 104]
def wSame : List UInt8 := [115, 97, 109, 101]
def wOther : List UInt8 := [111, 116, 104, 101, 114]
def wKey : List UInt8 := [107, 101, 121]
def wVal : List UInt8 := [118, 97, 108]
/-- always, same or other -/
def whenR (s : List UInt8) : Int := if nextR wSame s = true then 1 else if nextR wOther s = true then 2 else 0
def afterW (s : List UInt8) : List UInt8 := if nextR wSame s = true then s.drop 5 else if nextR wOther s = true then s.drop 6 else s
def blankX : ExprV := .mk 0 0 (tx []) []
/-- the condition and its text -/
def condR (s : List UInt8) : ExprV × List UInt8 × List UInt8 × Bool :=
  if whenR s = 0 then (blankX, [], afterW s, false)
  else ((readX 5 (afterW s) false).1, (quotedR (readX 5 (afterW s) false).2.1).1, (quotedR (readX 5 (afterW s) false).2.1).2.1, (readX 5 (afterW s) false).2.2 || (quotedR (readX 5 (afterW s) false).2.1).2.2)
/-- key and value, of what is behind the condition -/
def keyR (s : List UInt8) (bad : Bool) : ExprV × List UInt8 × Bool := readX 5 (afterR wKey s) (!nextR wKey s || bad)
def valR (s : List UInt8) (bad : Bool) : ExprV × List UInt8 × Bool := readX 5 (afterR wVal s) (!nextR wVal s || bad)
/-- a line as a rule, is something wrong -/
def readRule (s : List UInt8) : RuleV × Bool :=
  let e := nextR wEach s
  let c := condR (afterR wEach s)
  let k := keyR c.2.2.1 c.2.2.2
  let v := valR k.2.1 k.2.2
  (⟨e, whenR (afterR wEach s), c.1, tx c.2.1, k.1, v.1⟩, v.2.2 || !v.2.1.isEmpty)
def foldN (w : List UInt8) : Int := if w = foldK 1 then 1 else if w = foldK 2 then 2 else if w = foldK 3 then 3 else if w = foldK 4 then 4 else 0
/-- a text without its last end of a line -/
def trim10 (s : List UInt8) : List UInt8 := if s.getLast? = some 10 then s.dropLast else s
def linesR (s : List UInt8) : List (List UInt8) := splitAt 10 (trim10 s)
def earlyW : List UInt8 := [101, 97, 114, 108, 121]
def headR (h : List UInt8) : Int × Int × Bool × Bool :=
  (foldN (wordR h).1, atoiV (wordR (wordR h).2).1, decide ((wordR (wordR h).2).2 = earlyW), !numOk (wordR (wordR h).2).1)
/-- a text as a job: rules, how it is folded, slices, early, is something wrong -/
def readJob (s : List UInt8) : List RuleV × Int × Int × Bool × Bool :=
  (((linesR s).drop 1).map fun l => (readRule l).1, (headR ((linesR s).headD [])).1, (headR ((linesR s).headD [])).2.1, (headR ((linesR s).headD [])).2.2.1,
    (headR ((linesR s).headD [])).2.2.2 || ((linesR s).drop 1).any fun l => (readRule l).2)

theorem indexByte_mem {l : List UInt8} {c : UInt8} (h : c ∈ l) : 0 ≤ Lib.indexByte l c := by
  have h1 := Lib.indexByte_ge l c
  rcases Int.lt_or_le (Lib.indexByte l c) 0 with h2 | h2
  · obtain ⟨k, hk⟩ := List.mem_iff_getElem?.1 h
    exact absurd hk (Lib.indexByte_none (by omega) k)
  · exact h2
theorem quote_10 {l : List UInt8} (h : (10 : UInt8) ∉ l) : (10 : UInt8) ∉ quoteL l := by
  unfold quoteL escB
  simp only [List.mem_cons, List.mem_append, List.mem_flatMap, not_or, not_exists, not_and, List.not_mem_nil, or_false]
  refine ⟨by decide, fun c hc => ?_, by decide⟩
  have : c ≠ 10 := fun e => h (e ▸ hc)
  split
  · simp; exact fun e => this e.symm
  · simp; exact fun e => this e.symm
/-- what may stand behind -/
def Sep (R : List UInt8) : Prop := R = [] ∨ ∃ R', R = 32 :: R'
theorem wordR_eq {w R : List UInt8} (h : (32 : UInt8) ∉ w) (hR : Sep R) : wordR (w ++ R) = (w, R.drop 1) := by
  unfold wordR
  rcases hR with rfl | ⟨R', rfl⟩
  · rw [List.append_nil, cutAt_no h]; rfl
  · rw [cutAt_yes h]; rfl
theorem nameK_not (k : Int) : (32 : UInt8) ∉ nameK k ∧ (10 : UInt8) ∉ nameK k := by
  unfold nameK
  constructor <;> (repeat' split) <;> decide
theorem nameK_same {a b : Int} (ha : 1 ≤ a ∧ a ≤ 10) (hb : 1 ≤ b ∧ b ≤ 10) (h : nameK a = nameK b) : a = b := by
  have h1 : a = 1 ∨ a = 2 ∨ a = 3 ∨ a = 4 ∨ a = 5 ∨ a = 6 ∨ a = 7 ∨ a = 8 ∨ a = 9 ∨ a = 10 := by omega
  have h2 : b = 1 ∨ b = 2 ∨ b = 3 ∨ b = 4 ∨ b = 5 ∨ b = 6 ∨ b = 7 ∨ b = 8 ∨ b = 9 ∨ b = 10 := by omega
  rcases h1 with rfl | rfl | rfl | rfl | rfl | rfl | rfl | rfl | rfl | rfl <;> rcases h2 with rfl | rfl | rfl | rfl | rfl | rfl | rfl | rfl | rfl | rfl <;> first | rfl | (exfalso; revert h; decide)
theorem kindN_name {k : Int} (h : 1 ≤ k ∧ k ≤ 10) : kindN (nameK k) = k := by
  have h1 : k = 1 ∨ k = 2 ∨ k = 3 ∨ k = 4 ∨ k = 5 ∨ k = 6 ∨ k = 7 ∨ k = 8 ∨ k = 9 ∨ k = 10 := by omega
  rcases h1 with rfl | rfl | rfl | rfl | rfl | rfl | rfl | rfl | rfl | rfl <;> decide
theorem quoG_esc (R : List UInt8) : ∀ l : List UInt8, quoG (escB l ++ 34 :: R) = some (l, R)
  | [] => by
    cases R with
    | nil => rfl
    | cons d R => simp [escB, quoG]
  | c :: l => by
    have ih := quoG_esc R l
    by_cases hc : c = 34 ∨ c = 92
    · have e : escB (c :: l) ++ 34 :: R = 92 :: c :: (escB l ++ 34 :: R) := by simp [escB, hc]
      rw [e, quoG, if_pos rfl, ih]; rfl
    · have e : escB (c :: l) ++ 34 :: R = c :: (escB l ++ 34 :: R) := by simp [escB, hc]
      rw [e]
      obtain ⟨d, r, hd⟩ : ∃ d r, escB l ++ 34 :: R = d :: r := by
        cases h : escB l ++ 34 :: R with
        | nil => simp at h
        | cons d r => exact ⟨d, r, rfl⟩
      rw [hd] at ih ⊢
      rw [quoG, if_neg (fun e => hc (.inr e)), if_neg (fun e => hc (.inl e)), ih]; rfl
theorem quotedR_eq (l : List UInt8) {R : List UInt8} (hR : Sep R) : quotedR (quoteL l ++ R) = (l, R.drop 1, false) := by
  have e : quoteL l ++ R = 34 :: (escB l ++ 34 :: R) := by simp [quoteL]
  rw [e]
  unfold quotedR
  simp only [if_pos, quoG_esc]
  rcases hR with rfl | ⟨R', rfl⟩ <;> simp
theorem itoa_32 (v : Int) : (32 : UInt8) ∉ Lib.itoa v ∧ (10 : UInt8) ∉ Lib.itoa v := ⟨itoa_not (by decide) (by decide), itoa_not (by decide) (by decide)⟩
theorem numOk_itoa {v : Int} (h : -9223372036854775808 ≤ v ∧ v ≤ 9223372036854775807) : numOk (Lib.itoa v) = true ∧ atoiV (Lib.itoa v) = v := by
  have h1 : numS (Lib.itoa v) = some v := num_iff.2 ⟨h, rfl⟩
  have h2 : numOk (Lib.itoa v) = true := by unfold numOk; rw [h1]; rfl
  refine ⟨h2, ?_⟩
  have h3 := numOk_val h2
  rw [h1] at h3
  exact (Option.some.inj h3).symm
theorem sep_cons (l : List UInt8) : Sep (32 :: l) := .inr ⟨l, rfl⟩
theorem sep_app {A R : List UInt8} (hA : Sep A) (hR : Sep R) : Sep (A ++ R) := by
  rcases hA with rfl | ⟨A', rfl⟩
  · exact hR
  · exact .inr ⟨A' ++ R, rfl⟩
theorem sep_num (k n : Int) : Sep (numPart k n) := by unfold numPart; split; exact sep_cons _; exact .inl rfl
theorem sep_txt (k : Int) (s : ByteArray) : Sep (txtPart k s) := by unfold txtPart; split; exact sep_cons _; exact .inl rfl
theorem sep_kids (a : List ExprV) : Sep (textXs a) := by cases a <;> simp [textXs, Sep]
theorem numR_eq {k n : Int} (hn : (k = 3 ∨ k = 6 ∨ k = 7) ∨ n = 0) (hb : -9223372036854775808 ≤ n ∧ n ≤ 9223372036854775807) {R : List UInt8} (hR : Sep R) :
    numR k ((numPart k n ++ R).drop 1) = (n, R.drop 1, false) := by
  unfold numR numPart
  by_cases hk : k = 3 ∨ k = 6 ∨ k = 7
  · rw [if_pos hk, if_pos hk]
    have e : (32 :: Lib.itoa n ++ R).drop 1 = Lib.itoa n ++ R := rfl
    rw [e, wordR_eq (itoa_32 n).1 hR]
    obtain ⟨h1, h2⟩ := numOk_itoa hb
    simp [h1, h2]
  · rw [if_neg hk, if_neg hk]
    rcases hn with h1 | rfl
    · exact absurd h1 hk
    · rfl
theorem txtR_eq {k : Int} {s : ByteArray} (hs : k = 4 ∨ s.data.toList = []) {R : List UInt8} (hR : Sep R) : txtR k ((txtPart k s ++ R).drop 1) = (s.data.toList, R.drop 1, false) := by
  unfold txtR txtPart
  by_cases hk : k = 4
  · rw [if_pos hk, if_pos hk]
    exact quotedR_eq _ hR
  · rw [if_neg hk, if_neg hk]
    rcases hs with h1 | h1
    · exact absurd h1 hk
    · rw [h1]; rfl
theorem ownX_eq {k n : Int} {s : ByteArray} {a : List ExprV} (hk : 1 ≤ k ∧ k ≤ 10) (hn : (k = 3 ∨ k = 6 ∨ k = 7) ∨ n = 0) (hb : -9223372036854775808 ≤ n ∧ n ≤ 9223372036854775807) (hs : k = 4 ∨ s.data.toList = []) {R : List UInt8} (hR : Sep R) :
    ownX (textX (.mk k n s a) ++ R) = (k, n, s.data.toList, (textXs a ++ R).drop 1, false) := by
  have e : textX (.mk k n s a) ++ R = nameK k ++ (numPart k n ++ (txtPart k s ++ (textXs a ++ R))) := by simp [textX]
  have s2 : Sep (textXs a ++ R) := sep_app (sep_kids a) hR
  have s1 : Sep (txtPart k s ++ (textXs a ++ R)) := sep_app (sep_txt k s) s2
  have s0 : Sep (numPart k n ++ (txtPart k s ++ (textXs a ++ R))) := sep_app (sep_num k n) s1
  unfold ownX
  rw [e, wordR_eq (nameK_not k).1 s0]
  simp only [kindN_name hk]
  rw [numR_eq hn hb s1, txtR_eq hs s2]
  have : decide (k = 0) = false := by simp; omega
  simp [this]
theorem readKids_eq (rd : List UInt8 → ExprV × List UInt8 × Bool) {R : List UInt8} (hR : Sep R) : ∀ (l : List ExprV), (∀ x ∈ l, ∀ R', Sep R' → rd (textX x ++ R') = (x, R'.drop 1, false)) → readKids rd l.length ((textXs l ++ R).drop 1) false = (l, R.drop 1, false)
  | [], _ => by simp [readKids, textXs]
  | x :: l, h => by
    have h1 := h x List.mem_cons_self (textXs l ++ R) (sep_app (sep_kids l) hR)
    have h2 := readKids_eq rd hR l fun y hy => h y (List.mem_cons_of_mem _ hy)
    have e : (textXs (x :: l) ++ R).drop 1 = textX x ++ (textXs l ++ R) := by simp [textXs]
    rw [List.length_cons, readKids, e, h1]
    simp only [Bool.false_eq_true, if_false]
    rw [h2]
theorem shL_mem : ∀ {a : List ExprV} {ts : List Bool} {each : Bool}, shL a ts each = true → a.length = ts.length → ∀ x ∈ a, ∃ t, shE x t each = true
  | [], _, _, _, _, x, hx => by cases hx
  | a :: l, [], _, _, h, x, hx => by simp at h
  | a :: l, t :: ts, each, h, hl, x, hx => by
    rw [shL, Bool.and_eq_true] at h
    rcases List.mem_cons.1 hx with rfl | hx
    · exact ⟨t, h.1⟩
    · exact shL_mem h.2 (by simpa using hl) x hx
theorem deepL_mem : ∀ {a : List ExprV} {x : ExprV}, x ∈ a → x.deep ≤ ExprV.deepL a
  | [], _, h => by cases h
  | y :: l, x, h => by
    rw [ExprV.deepL]
    rcases List.mem_cons.1 h with rfl | h
    · exact Nat.le_max_left _ _
    · exact Nat.le_trans (deepL_mem h) (Nat.le_max_right _ _)
theorem shE_own {k n : Int} {s : ByteArray} {a : List ExprV} {text each : Bool} (h : shE (.mk k n s a) text each = true) :
    (1 ≤ k ∧ k ≤ 10) ∧ ((k = 3 ∨ k = 6 ∨ k = 7) ∨ n = 0) ∧ (-9223372036854775808 ≤ n ∧ n ≤ 9223372036854775807) ∧ (k = 4 ∨ s.data.toList = []) ∧ a.length = manyK k ∧ ((10 : UInt8) ∉ s.data.toList) := by
  obtain ⟨h1, h2, h3, _, h5, _⟩ := shE_parts h
  have hn : ((k = 3 ∨ k = 6 ∨ k = 7) ∨ n = 0) ∧ (-9223372036854775808 ≤ n ∧ n ≤ 9223372036854775807) := by
    unfold nOk at h2
    split at h2
    · simp at h2; omega
    · split at h2
      · simp at h2; omega
      · split at h2
        · simp at h2; omega
        · simp at h2; omega
  have hs : (k = 4 ∨ s.data.toList = []) ∧ ((10 : UInt8) ∉ s.data.toList) := by
    unfold sOk at h3
    split at h3
    · rename_i hk
      refine ⟨.inl hk, fun hm => ?_⟩
      simp only [Bool.and_eq_true, Bool.not_eq_true', decide_eq_false_iff_not] at h3
      exact h3.2 (indexByte_mem hm)
    · have : s.data.toList = [] := by rw [← tl]; exact List.isEmpty_iff.1 h3
      exact ⟨.inr this, by rw [this]; simp⟩
  refine ⟨h1, hn.1, hn.2, hs.1, ?_, hs.2⟩
  rw [h5]
  unfold kidsOf manyK
  have hk : k = 1 ∨ k = 2 ∨ k = 3 ∨ k = 4 ∨ k = 5 ∨ k = 6 ∨ k = 7 ∨ k = 8 ∨ k = 9 ∨ k = 10 := by omega
  rcases hk with rfl | rfl | rfl | rfl | rfl | rfl | rfl | rfl | rfl | rfl <;> rfl
/-- what is written is read -/
theorem readX_text : ∀ (f : Nat) (e : ExprV) (text each : Bool) (R : List UInt8), shE e text each = true → e.deep ≤ f → Sep R → readX f (textX e ++ R) false = (e, R.drop 1, false)
  | 0, e, _, _, _, _, hd, _ => by
    obtain ⟨k, n, s, a⟩ := e
    rw [ExprV.deep] at hd
    omega
  | f + 1, e, text, each, R, h, hd, hR => by
    obtain ⟨k, n, s, a⟩ := e
    obtain ⟨h1, h2, h3, h4, h5, _⟩ := shE_own h
    obtain ⟨_, _, _, _, h6, h7⟩ := shE_parts h
    rw [ExprV.deep] at hd
    rw [readX]
    simp only [ownX_eq (a := a) h1 h2 h3 h4 hR, Bool.or_false]
    rw [← h5, readKids_eq _ hR a fun x hx R' hR' => ?_]
    · simp only [tx_of]
    · obtain ⟨t, ht⟩ := shL_mem h7 h6 x hx
      exact readX_text f x t each R' ht (by have := deepL_mem hx; omega) hR'
theorem textX_10 : ∀ (f : Nat) (e : ExprV) (text each : Bool), shE e text each = true → e.deep ≤ f → (10 : UInt8) ∉ textX e
  | 0, e, _, _, _, hd => by
    obtain ⟨k, n, s, a⟩ := e
    rw [ExprV.deep] at hd
    omega
  | f + 1, e, text, each, h, hd => by
    obtain ⟨k, n, s, a⟩ := e
    obtain ⟨h1, h2, h3, h4, h5, h6⟩ := shE_own h
    obtain ⟨_, _, _, _, h7, h8⟩ := shE_parts h
    rw [ExprV.deep] at hd
    have hk : ∀ l : List ExprV, (∀ x ∈ l, (10 : UInt8) ∉ textX x) → (10 : UInt8) ∉ textXs l := by
      intro l
      induction l with
      | nil => intro _; simp [textXs]
      | cons x l ih =>
        intro h
        simp only [textXs, List.mem_cons, List.mem_append, not_or]
        exact ⟨by decide, h x List.mem_cons_self, ih fun y hy => h y (List.mem_cons_of_mem _ hy)⟩
    rw [textX]
    simp only [List.mem_append, not_or]
    refine ⟨(nameK_not k).2, ?_, ?_, hk a fun x hx => ?_⟩
    · unfold numPart
      split
      · simp only [List.mem_cons, not_or]; exact ⟨by decide, (itoa_32 n).2⟩
      · simp
    · unfold txtPart
      split
      · simp only [List.mem_cons, not_or]; exact ⟨by decide, quote_10 h6⟩
      · simp
    · obtain ⟨t, ht⟩ := shL_mem h8 h7 x hx
      exact textX_10 f x t each ht (by have := deepL_mem hx; omega)
end Go.Proofs.YtgeedjlbajmdkaaGreatDoor
/- The text of a job, and how it is read (plain): rules, jobs. -/
namespace Go.Proofs.YtgeedjlbajmdkaaGreatDoor
open Go.RowKit

theorem blank_eq {e : ExprV} (h : blankE e = true) : e = blankX := by
  obtain ⟨k, n, s, a⟩ := e
  simp only [blankE, Bool.and_eq_true, beq_iff_eq, List.isEmpty_iff] at h
  obtain ⟨rfl, rfl, hs, rfl⟩ := h
  unfold blankX
  rw [show s = tx [] from tl_inj (by rw [hs, tl, tx_list])]
/-- what a rule that may be is -/
theorem rule_parts {r : RuleV} (h : ruleF r = 0) : RuleOk r ∧ (r.when_ = 0 → r.cond = blankX ∧ r.txt = tx []) ∧ (10 : UInt8) ∉ r.txt.data.toList := by
  have hok := RuleOk.of h
  have hc : condF r = 0 := by
    unfold ruleF at h
    split at h
    · rename_i h2; exact absurd h h2
    · rename_i h2; exact Classical.not_not.1 h2
  refine ⟨hok, fun hw => ?_, ?_⟩
  · rw [condF, if_pos hw] at hc
    split at hc
    · rename_i h2
      exact ⟨blank_eq h2.2, tl_inj (by rw [List.isEmpty_iff.1 h2.1, tl, tx_list])⟩
    · cases hc
  · unfold condF at hc
    split at hc
    · split at hc
      · rename_i h2
        rw [← tl, List.isEmpty_iff.1 h2.1]; simp
      · cases hc
    · split at hc
      · split at hc
        · rename_i h2
          exact fun hm => by have h3 := h2.2; rw [decide_eq_false_iff_not] at h3; exact h3 (indexByte_mem hm)
        · cases hc
      · cases hc
theorem next_each (l : List UInt8) : nextR wEach (101 :: 97 :: 99 :: 104 :: 32 :: l) = true := rfl
theorem next_not {w : List UInt8} {a b : UInt8} {l : List UInt8} (h : a ≠ b) : nextR (a :: w) (b :: l) = false := by
  unfold nextR
  simp [List.isPrefixOf, h]
theorem whenT_head (r : RuleV) (l : List UInt8) : ∃ c t, whenT r ++ ([107, 101, 121, 32] ++ l) = c :: t ∧ c ≠ 101 := by
  unfold whenT
  split
  · exact ⟨_, _, rfl, by decide⟩
  · split
    · exact ⟨_, _, rfl, by decide⟩
    · exact ⟨_, _, rfl, by decide⟩
theorem condR_eq {r : RuleV} (h : ruleF r = 0) (l : List UInt8) : condR (whenT r ++ ([107, 101, 121, 32] ++ l)) = (r.cond, r.txt.data.toList, [107, 101, 121, 32] ++ l, false) ∧ whenR (whenT r ++ ([107, 101, 121, 32] ++ l)) = r.when_ := by
  obtain ⟨hok, hb, _⟩ := rule_parts h
  by_cases h0 : r.when_ = 0
  · obtain ⟨hc, ht⟩ := hb h0
    have e : whenT r ++ ([107, 101, 121, 32] ++ l) = 107 :: 101 :: 121 :: 32 :: l := by unfold whenT; rw [if_pos h0]; rfl
    rw [e]
    have n1 : nextR wSame (107 :: 101 :: 121 :: 32 :: l) = false := next_not (by decide)
    have n2 : nextR wOther (107 :: 101 :: 121 :: 32 :: l) = false := next_not (by decide)
    have hw : whenR (107 :: 101 :: 121 :: 32 :: l) = 0 := by simp [whenR, n1, n2]
    refine ⟨?_, by rw [hw, h0]⟩
    unfold condR
    rw [if_pos hw, hc, ht]
    simp [afterW, n1, n2, tx_list]
  · obtain ⟨c1, c2, c3⟩ := hok.cond h0
    have hx : readX 5 (textX r.cond ++ (32 :: (quoteL r.txt.data.toList ++ (32 :: ([107, 101, 121, 32] ++ l))))) false = (r.cond, quoteL r.txt.data.toList ++ (32 :: ([107, 101, 121, 32] ++ l)), false) := by
      rw [readX_text 5 _ true r.each _ c3 c2 (sep_cons _)]; rfl
    have hq : quotedR (quoteL r.txt.data.toList ++ (32 :: ([107, 101, 121, 32] ++ l))) = (r.txt.data.toList, [107, 101, 121, 32] ++ l, false) := by
      rw [quotedR_eq _ (sep_cons _)]; rfl
    rcases hok.whn with h1 | h1 | h1
    · exact absurd h1 h0
    · have e : whenT r ++ ([107, 101, 121, 32] ++ l) = 115 :: 97 :: 109 :: 101 :: 32 :: (textX r.cond ++ (32 :: (quoteL r.txt.data.toList ++ (32 :: ([107, 101, 121, 32] ++ l))))) := by
        unfold whenT; rw [if_neg h0, if_pos h1]; simp
      rw [e]
      have n1 : nextR wSame (115 :: 97 :: 109 :: 101 :: 32 :: (textX r.cond ++ (32 :: (quoteL r.txt.data.toList ++ (32 :: ([107, 101, 121, 32] ++ l)))))) = true := rfl
      have hw : whenR (115 :: 97 :: 109 :: 101 :: 32 :: (textX r.cond ++ (32 :: (quoteL r.txt.data.toList ++ (32 :: ([107, 101, 121, 32] ++ l)))))) = 1 := by unfold whenR; rw [if_pos n1]
      have ha : afterW (115 :: 97 :: 109 :: 101 :: 32 :: (textX r.cond ++ (32 :: (quoteL r.txt.data.toList ++ (32 :: ([107, 101, 121, 32] ++ l)))))) = textX r.cond ++ (32 :: (quoteL r.txt.data.toList ++ (32 :: ([107, 101, 121, 32] ++ l)))) := by unfold afterW; rw [if_pos n1]; rfl
      refine ⟨?_, by rw [hw, h1]⟩
      unfold condR
      rw [if_neg (by rw [hw]; decide), ha, hx]
      simp only [hq, Bool.or_self]
    · have e : whenT r ++ ([107, 101, 121, 32] ++ l) = 111 :: 116 :: 104 :: 101 :: 114 :: 32 :: (textX r.cond ++ (32 :: (quoteL r.txt.data.toList ++ (32 :: ([107, 101, 121, 32] ++ l))))) := by
        unfold whenT; rw [if_neg h0, if_neg (by omega)]; simp
      rw [e]
      have n0 : nextR wSame (111 :: 116 :: 104 :: 101 :: 114 :: 32 :: (textX r.cond ++ (32 :: (quoteL r.txt.data.toList ++ (32 :: ([107, 101, 121, 32] ++ l)))))) = false := next_not (by decide)
      have n1 : nextR wOther (111 :: 116 :: 104 :: 101 :: 114 :: 32 :: (textX r.cond ++ (32 :: (quoteL r.txt.data.toList ++ (32 :: ([107, 101, 121, 32] ++ l)))))) = true := rfl
      have hw : whenR (111 :: 116 :: 104 :: 101 :: 114 :: 32 :: (textX r.cond ++ (32 :: (quoteL r.txt.data.toList ++ (32 :: ([107, 101, 121, 32] ++ l)))))) = 2 := by unfold whenR; rw [if_neg (by rw [n0]; decide), if_pos n1]
      have ha : afterW (111 :: 116 :: 104 :: 101 :: 114 :: 32 :: (textX r.cond ++ (32 :: (quoteL r.txt.data.toList ++ (32 :: ([107, 101, 121, 32] ++ l)))))) = textX r.cond ++ (32 :: (quoteL r.txt.data.toList ++ (32 :: ([107, 101, 121, 32] ++ l)))) := by unfold afterW; rw [if_neg (by rw [n0]; decide), if_pos n1]; rfl
      refine ⟨?_, by rw [hw, h1]⟩
      unfold condR
      rw [if_neg (by rw [hw]; decide), ha, hx]
      simp only [hq, Bool.or_self]
/-- a rule's line is read as it -/
theorem readRule_text {r : RuleV} (h : ruleF r = 0) : readRule (ruleT r) = (r, false) := by
  obtain ⟨hok, _, _⟩ := rule_parts h
  obtain ⟨k1, k2, k3⟩ := hok.key
  obtain ⟨v1, v2, v3⟩ := hok.val
  have hE : nextR wEach (ruleT r) = r.each ∧ afterR wEach (ruleT r) = whenT r ++ ([107, 101, 121, 32] ++ (textX r.key ++ ([32, 118, 97, 108, 32] ++ textX r.val))) := by
    unfold ruleT
    cases he : r.each with
    | true =>
      have n1 : nextR wEach (eachT true ++ (whenT r ++ ([107, 101, 121, 32] ++ (textX r.key ++ ([32, 118, 97, 108, 32] ++ textX r.val))))) = true := next_each _
      refine ⟨n1, ?_⟩
      unfold afterR
      rw [if_pos n1]; rfl
    | false =>
      obtain ⟨c, t, e, hc⟩ := whenT_head r (textX r.key ++ ([32, 118, 97, 108, 32] ++ textX r.val))
      have e2 : eachT false ++ (whenT r ++ ([107, 101, 121, 32] ++ (textX r.key ++ ([32, 118, 97, 108, 32] ++ textX r.val)))) = c :: t := by rw [e]; rfl
      have n1 : nextR wEach (c :: t) = false := next_not (fun h => hc h.symm)
      rw [e2]
      refine ⟨n1, ?_⟩
      unfold afterR
      rw [if_neg (by rw [n1]; decide), ← e]
  obtain ⟨hc, hw⟩ := condR_eq h (textX r.key ++ ([32, 118, 97, 108, 32] ++ textX r.val))
  have hK : keyR ([107, 101, 121, 32] ++ (textX r.key ++ ([32, 118, 97, 108, 32] ++ textX r.val))) false = (r.key, [118, 97, 108, 32] ++ textX r.val, false) := by
    have n1 : nextR wKey ([107, 101, 121, 32] ++ (textX r.key ++ ([32, 118, 97, 108, 32] ++ textX r.val))) = true := rfl
    unfold keyR afterR
    rw [n1]
    have e : ([107, 101, 121, 32] ++ (textX r.key ++ ([32, 118, 97, 108, 32] ++ textX r.val))).drop (wKey.length + 1) = textX r.key ++ (32 :: ([118, 97, 108, 32] ++ textX r.val)) := rfl
    rw [if_pos rfl, e]
    show readX 5 _ false = _
    rw [readX_text 5 _ true r.each _ k3 k2 (sep_cons _)]; rfl
  have hV : valR ([118, 97, 108, 32] ++ textX r.val) false = (r.val, [], false) := by
    have n1 : nextR wVal ([118, 97, 108, 32] ++ textX r.val) = true := rfl
    unfold valR afterR
    rw [n1]
    have e : ([118, 97, 108, 32] ++ textX r.val).drop (wVal.length + 1) = textX r.val ++ [] := by rw [List.append_nil]; rfl
    rw [if_pos rfl, e]
    show readX 5 _ false = _
    rw [readX_text 5 _ false r.each _ v3 v2 (.inl rfl)]; rfl
  unfold readRule
  simp only [hE.1, hE.2, hc, hw, hK, hV, tx_of]
  rfl
theorem ruleT_10 {r : RuleV} (h : ruleF r = 0) : (10 : UInt8) ∉ ruleT r := by
  obtain ⟨hok, hb, ht⟩ := rule_parts h
  obtain ⟨k1, k2, k3⟩ := hok.key
  obtain ⟨v1, v2, v3⟩ := hok.val
  have hx := textX_10 5 _ _ _ k3 k2
  have hy := textX_10 5 _ _ _ v3 v2
  have hw : (10 : UInt8) ∉ whenT r := by
    unfold whenT
    split
    · simp
    · rename_i h0
      obtain ⟨c1, c2, c3⟩ := hok.cond h0
      have hz := textX_10 5 _ _ _ c3 c2
      have hq := quote_10 ht
      simp only [List.mem_append, List.mem_cons, not_or]
      refine ⟨?_, hz, by decide, hq, by decide, by simp⟩
      split <;> decide
  unfold ruleT
  simp only [List.mem_append, not_or]
  refine ⟨?_, hw, by decide, hx, by decide, hy⟩
  unfold eachT
  split <;> decide
/-- lines, an end behind each -/
def endL (ls : List (List UInt8)) : List UInt8 := ls.flatMap fun l => l ++ [10]
theorem split_end : ∀ (ls : List (List UInt8)) (l : List UInt8), (∀ x ∈ ls, (10 : UInt8) ∉ x) → (10 : UInt8) ∉ l → splitAt 10 (endL ls ++ l) = ls ++ [l]
  | [], l, _, hl => by
    have e : endL [] ++ l = l := rfl
    rw [e, splitAt_no hl]; rfl
  | x :: ls, l, h, hl => by
    have e : endL (x :: ls) ++ l = x ++ 10 :: (endL ls ++ l) := by simp [endL]
    rw [e, splitAt_yes (h x List.mem_cons_self), split_end ls l (fun y hy => h y (List.mem_cons_of_mem _ hy)) hl]
    rfl
theorem lines_end (ls : List (List UInt8)) (l : List UInt8) (h : ∀ x ∈ ls, (10 : UInt8) ∉ x) (hl : (10 : UInt8) ∉ l) : linesR (endL (ls ++ [l])) = ls ++ [l] := by
  have e : endL (ls ++ [l]) = (endL ls ++ l) ++ [10] := by simp [endL]
  unfold linesR trim10
  rw [e, List.getLast?_concat, if_pos rfl, List.dropLast_concat]
  exact split_end ls l h hl
theorem jobT_end (rs : List RuleV) (fold slices : Int) (early : Bool) : jobT rs fold slices early = endL (headT fold slices early :: rs.map ruleT) := by
  unfold jobT endL
  rw [List.flatMap_cons, List.flatMap_map]
  simp
theorem foldK_not (k : Int) : (32 : UInt8) ∉ foldK k ∧ (10 : UInt8) ∉ foldK k := by
  unfold foldK
  constructor <;> (repeat' split) <;> decide
theorem foldN_fold {k : Int} (h : 1 ≤ k ∧ k ≤ 4) : foldN (foldK k) = k := by
  have h1 : k = 1 ∨ k = 2 ∨ k = 3 ∨ k = 4 := by omega
  rcases h1 with rfl | rfl | rfl | rfl <;> decide
theorem headT_10 (fold slices : Int) (early : Bool) : (10 : UInt8) ∉ headT fold slices early := by
  unfold headT
  simp only [List.mem_append, List.mem_cons, not_or]
  refine ⟨(foldK_not fold).2, by decide, (itoa_32 slices).2, ?_⟩
  split <;> decide
theorem headR_text {fold slices : Int} (early : Bool) (hf : 1 ≤ fold ∧ fold ≤ 4) (hs : 1 ≤ slices ∧ slices ≤ 4) : headR (headT fold slices early) = (fold, slices, early, false) := by
  obtain ⟨n1, n2⟩ := numOk_itoa (v := slices) (by omega)
  have h1 : wordR (headT fold slices early) = (foldK fold, Lib.itoa slices ++ (if early = true then [32, 101, 97, 114, 108, 121] else [])) := by
    unfold headT
    rw [wordR_eq (foldK_not fold).1 (sep_cons _)]; rfl
  have h2 : wordR (Lib.itoa slices ++ (if early = true then [32, 101, 97, 114, 108, 121] else [])) = (Lib.itoa slices, if early = true then earlyW else []) := by
    cases early
    · have e := wordR_eq (itoa_32 slices).1 (R := []) (.inl rfl)
      simpa using e
    · have e := wordR_eq (itoa_32 slices).1 (R := [32, 101, 97, 114, 108, 121]) (sep_cons _)
      simpa [earlyW] using e
  unfold headR
  simp only [h1, h2, foldN_fold hf, n1, n2]
  cases early <;> rfl
/-- what is written is read -/
theorem readJob_text {rs : List RuleV} {fold slices : Int} {early : Bool} (h : jobF rs fold slices = 0) : readJob (jobT rs fold slices early) = (rs, fold, slices, early, false) := by
  obtain ⟨⟨hl, _⟩, hf, hs, hr⟩ := jobF_ok h
  have hl2 : linesR (jobT rs fold slices early) = headT fold slices early :: rs.map ruleT := by
    rw [jobT_end]
    obtain ⟨ls, l, e⟩ : ∃ ls l, headT fold slices early :: rs.map ruleT = ls ++ [l] := ⟨_, _, (List.dropLast_concat_getLast (by simp)).symm⟩
    have hall : ∀ x ∈ headT fold slices early :: rs.map ruleT, (10 : UInt8) ∉ x := by
      intro x hx
      rcases List.mem_cons.1 hx with rfl | hx
      · exact headT_10 _ _ _
      · obtain ⟨r, hr1, rfl⟩ := List.mem_map.1 hx
        exact ruleT_10 (hr r hr1)
    rw [e] at hall ⊢
    exact lines_end ls l (fun x hx => hall x (List.mem_append_left _ hx)) (hall l (by simp))
  unfold readJob
  rw [hl2]
  simp only [List.drop_succ_cons, List.drop_zero, List.headD_cons, headR_text early hf hs, List.map_map, List.any_map]
  have e1 : (rs.map ((fun l => (readRule l).1) ∘ ruleT)) = rs := by
    conv => rhs; rw [← List.map_id rs]
    exact List.map_congr_left fun r hr1 => by simp [readRule_text (hr r hr1)]
  have e2 : rs.any ((fun l => (readRule l).2) ∘ ruleT) = false := by
    rw [List.any_eq_false]
    intro r hr1
    simp [readRule_text (hr r hr1)]
  rw [e1, e2]
  rfl
end Go.Proofs.YtgeedjlbajmdkaaGreatDoor
/- A region that draws its order: reads and calls whose values do not hang on the world, then a tail in one forced order: walked once. Over any program. -/
namespace Go.Proofs.YtgeedjlbajmdkaaGreatDoor
open Go.RowKit

section
variable {P : Program} {ops : Array Oper} {md : Region.Mode} {C : World → Prop}
def wpAnyQL (P : Program) (md : Region.Mode) (ops : Array Oper) (C : World → Prop) (n : Nat) (L : Array Bool → Act → Prop) : Nat → Array Bool → Act → Prop
  | 0, listed, a => L listed a
  | f + 1, listed, a =>
    Region.ready md ops listed ≠ [] ∧ ∀ i ∈ Region.ready md ops listed, i < n ∧ qOp P ops C i (wpAnyQL P md ops C n L f (listed.setIfInBounds i true)) a
theorem wpAny_of_headQ {n g : Nat} {L : Array Bool → Act → Prop} {Q' : Exit → Act → World → Prop} (hL : ∀ listed a w, C w → L listed a → wpAny P md ops Q' g listed a w) :
    ∀ (f : Nat) (listed : Array Bool) (a : Act) (w : World), C w → wpAnyQL P md ops C n L f listed a → wpAny P md ops Q' (f + g) listed a w
  | 0, listed, a, w, hw, h => by rw [Nat.zero_add]; exact hL _ _ _ hw h
  | f + 1, listed, a, w, hw, h => by
    rw [show f + 1 + g = (f + g) + 1 by omega]
    exact ⟨fun h0 => absurd h0 h.1, fun i hi => wpOp_of_qOp hw (fun a' w' hw' h' => wpAny_of_headQ hL f _ a' w' hw' h') (h.2 i hi).2⟩
theorem wpAnyQL_first {n i : Nat} {oi : Oper} {v : Value} {L : Array Bool → Act → Prop} (hi : ops[i]? = some oi) (hsel : ∀ (j : Nat) (o : Oper) cs b, ops[j]? = some o → o.op ≠ .select cs b)
    (hs : Region.sinkB md ops n = true) (hc : Region.chainB md ops n = true) (hn : n < ops.size) (hin : i < n)
    (hdone : ∀ listed a, L listed a → ∀ j ∈ Region.ready md ops listed, n ≤ j) :
    ∀ (f : Nat) (listed : Array Bool) (a : Act), HeadInv md ops n listed →
      (∀ j oj, ops[j]? = some oj → j ≠ i → listed.getD j true = false → (∀ e ∈ oj.after, Region.binds md e = true → e.on ≠ i) → oi.apart ops oj = true) →
      i ∈ Region.ready md ops listed → YieldsIn P ops C oi v a →
      wpAnyQL P md ops C n L f (listed.setIfInBounds i true) (a.put oi.dst v) → wpAnyQL P md ops C n L (f + 1) listed a := by
  intro f
  induction f with
  | zero =>
    intro listed a inv _ hr hy H
    have hun := (mem_ready.1 hr).1
    refine ⟨fun h => (by rw [h] at hr; cases hr), fun j hj => ?_⟩
    have hjn : j < n := by
      rcases Nat.lt_or_ge j n with h | h
      · exact h
      · exact absurd hj (tail_waits hs hc hn inv _ i rfl hin hun j h)
    refine ⟨hjn, ?_⟩
    by_cases hji : j = i
    · subst hji; exact hy.qOp hi H
    · have := hdone _ _ H j (ready_mono hj hji)
      omega
  | succ f ih =>
    intro listed a inv hfree hr hy H
    have hun := (mem_ready.1 hr).1
    refine ⟨fun h => (by rw [h] at hr; cases hr), fun j hj => ?_⟩
    have hjn : j < n := by
      rcases Nat.lt_or_ge j n with h | h
      · exact h
      · exact absurd hj (tail_waits hs hc hn inv _ i rfl hin hun j h)
    refine ⟨hjn, ?_⟩
    by_cases hji : j = i
    · subst hji; exact hy.qOp hi H
    · have h1 := (H.2 j (ready_mono hj hji)).2
      obtain ⟨hjun, oj, hoj, hall⟩ := mem_ready.1 hj
      have hnot : ∀ e ∈ oj.after, Region.binds md e = true → e.on ≠ i := fun e he hb heq => by
        have h1 := hall e he hb
        rw [heq, getD_both hun] at h1
        cases h1
      have h2 := qOp_put hoj (hfree j oj hoj hji hjun hnot) (fun cs b => hsel i oi cs b hi) (fun cs b => hsel j oj cs b hoj) hy h1
      have hfree' : ∀ k ok, ops[k]? = some ok → k ≠ i → (listed.setIfInBounds j true).getD k true = false →
          (∀ e ∈ ok.after, Region.binds md e = true → e.on ≠ i) → oi.apart ops ok = true := fun k ok hk hki hun hno => by
        refine hfree k ok hk hki ?_ hno
        by_cases hjk : j = k
        · subst hjk; exact hjun
        · rw [getD_set_ne true hjk] at hun; exact hun
      refine qOp_mono (fun a' h3 => ih (listed.setIfInBounds j true) a' (inv.set hj hjn) hfree' (ready_mono hr (Ne.symm hji)) h3.1 ?_) h2
      rw [Array.setIfInBounds_comm _ _ hji]
      exact h3.2
theorem wpAnyQL_lex {n g : Nat} {Lq : Act → Prop} (hsel : Region.noSelect ops = true) (hs : Region.sinkB md ops n = true) (hc : Region.chainB md ops n = true) (hn : n < ops.size) :
    ∀ (l : List Oper) (k : Nat) (listed : Array Bool) (a : Act), (∀ j, j < l.length → l[j]? = ops[k + j]?) → k + l.length = n → HeadInv md ops n listed →
    Region.lexHead md ops g l.length k listed = true → wpQuiet P ops C Lq l a →
    wpAnyQL P md ops C n (fun listed' a' => Region.seqB md ops g n listed' = true ∧ Lq a') l.length listed a
  | [], k, listed, a, _, hk, _, hB, h => by
    have : k = n := by simpa using hk
    subst this
    exact ⟨by simpa [Region.lexHead] using hB, h⟩
  | o :: l, k, listed, a, hl, hk, inv, hB, h => by
    have h0 : ops[k]? = some o := by simpa using (hl 0 (by simp)).symm
    simp only [List.length_cons, Region.lexHead, Bool.and_eq_true] at hB
    obtain ⟨⟨hr, hf⟩, hB'⟩ := hB
    have hkn : k < n := by simp only [List.length_cons] at hk; omega
    have hr' : k ∈ Region.ready md ops listed := by simpa using hr
    have hst : qOp P ops C k (wpQuiet P ops C Lq l) a := by unfold qOp; simp only [h0]; exact h
    obtain ⟨v, hy, hK⟩ := yieldsIn_of_qOp h0 hst
    exact wpAnyQL_first h0 (Region.noSelect_spec hsel) hs hc hn hkn (fun listed' a' hL => seqB_ready hL.1) l.length listed a inv (Region.free_spec h0 hf) hr' hy
      (wpAnyQL_lex hsel hs hc hn l (k + 1) _ _ (fun j hj => by have := hl (j + 1) (by simp; omega); simpa [Nat.add_assoc, Nat.add_comm 1 j] using this) (by simp only [List.length_cons] at hk; omega) (inv.set hr' hkn) hB' hK)
/-- the first n operations are quiet in a class of worlds; what stands behind them comes in one order -/
theorem wp_region_quiet_tail {id : Nat} {Q : Exit → Act → World → Prop} {a : Act} {w : World} {l : List Oper} (n : Nat) (hm : P.follows .mixedOrders = true) (hB : Region.lexTailB .any l.toArray n = true) (hC : C { w with drawn := w.drawn + 1 })
    (h : wpQuiet P l.toArray C (fun a' => ∀ w', C w' → wpList P l.toArray Q (l.drop n) a' w') (l.take n) a) : (Code.region id l.toArray true).wp P Q a w := by
  simp only [Region.lexTailB, Bool.and_eq_true, decide_eq_true_eq] at hB
  obtain ⟨⟨⟨⟨hsel, hn⟩, hs⟩, hc⟩, hlex⟩ := hB
  have hn' : n < l.length := by simpa using hn
  have htl : (l.take n).length = n := by simp; omega
  have hdl : (l.drop n).length = l.toArray.size - n := by simp
  have inv0 : HeadInv .any l.toArray n (Array.replicate l.toArray.size false) :=
    ⟨by simp, fun j oj _ hl => (by rw [getD_replicate_false] at hl; cases hl), fun t _ ht => getD_in (by simpa using ht) (getD_replicate_false _ _)⟩
  have H := wpAnyQL_lex (md := .any) (C := C) (g := l.toArray.size - n) hsel hs hc hn (l.take n) 0 _ a (fun j hj => by
    have hj' : j < n := by rw [htl] at hj; exact hj
    simp [hj']) (by simpa using htl) inv0 (by rw [htl]; exact hlex) h
  refine wp_region_any hm ?_
  have := wpAny_of_headQ (Q' := Q) (g := l.toArray.size - n) (fun listed a' w' hw' hL => by
    have := wpAny_of_seq (md := .any) (Q' := Q) (l.drop n) n listed a' w' (fun j => by simp [List.getElem?_drop]) (by rw [hdl]; exact hL.1) (hL.2 w' hw')
    rwa [hdl] at this) _ _ _ _ hC H
  rw [htl, show n + (l.toArray.size - n) = l.toArray.size by omega] at this
  exact this
/-- the same at the worlds that lie above w -/
theorem wp_region_below_tail {id : Nat} {Q : Exit → Act → World → Prop} {a : Act} {w : World} {l : List Oper} (n : Nat) (hm : P.follows .mixedOrders = true) (hB : Region.lexTailB .any l.toArray n = true)
    (h : wpQuiet P l.toArray (fun w' => ∃ p : Regrown, w' = Go.Sort.grow (redrawn w p.d) p.os) (fun a' => ∀ w', (∃ p : Regrown, w' = Go.Sort.grow (redrawn w p.d) p.os) → wpList P l.toArray Q (l.drop n) a' w') (l.take n) a) : (Code.region id l.toArray true).wp P Q a w :=
  wp_region_quiet_tail (C := fun w' => ∃ p : Regrown, w' = Go.Sort.grow (redrawn w p.d) p.os) n hm hB ⟨⟨w.drawn + 1, #[]⟩, by rw [Go.Sort.grow_empty]; rfl⟩ h
/-! the same where some that hang on no world ('floaters') have been taken first -/
def seqI (md : Region.Mode) (ops : Array Oper) : List Nat → Array Bool → Bool
  | [], listed => (Region.ready md ops listed).isEmpty
  | k :: ks, listed => decide (Region.ready md ops listed = [k]) && seqI md ops ks (listed.setIfInBounds k true)
def lexI (md : Region.Mode) (ops : Array Oper) (ts : List Nat) : List Nat → Array Bool → Bool
  | [], listed => seqI md ops ts listed
  | k :: ks, listed => (Region.ready md ops listed).contains k && Region.free md ops listed k && lexI md ops ts ks (listed.setIfInBounds k true)
def sinkI (md : Region.Mode) (ops : Array Oper) (n : Nat) (l0 : Array Bool) : Bool :=
  (List.range n).all fun i => l0.getD i false || (List.range (n + 1)).any fun j => decide (i < j) && Region.waitsFor md ops j i
def chainI (md : Region.Mode) (ops : Array Oper) (n : Nat) (l0 : Array Bool) : Bool :=
  (List.range ops.size).all fun t => decide (t ≤ n) || (l0.getD t false || (List.range t).any fun u => decide (n ≤ u) && (!l0.getD u false && Region.waitsFor md ops t u))
def closedI (md : Region.Mode) (ops : Array Oper) (l0 : Array Bool) : Bool :=
  (List.range ops.size).all fun j => !l0.getD j false || ((ops[j]?).map fun o => o.after.all fun e => !Region.binds md e || l0.getD e.on false).getD true
structure HeadI (md : Region.Mode) (ops : Array Oper) (n : Nat) (l0 listed : Array Bool) : Prop where
  size : listed.size = ops.size
  closed : ∀ j oj, ops[j]? = some oj → listed.getD j false = true → ∀ e ∈ oj.after, Region.binds md e = true → listed.getD e.on false = true
  tail : ∀ t, n ≤ t → t < ops.size → l0.getD t false = false → listed.getD t true = false
  more : ∀ t, l0.getD t false = true → listed.getD t false = true
theorem HeadI.set {n i : Nat} {l0 listed : Array Bool} (inv : HeadI md ops n l0 listed) (hi : i ∈ Region.ready md ops listed) (hin : i < n) : HeadI md ops n l0 (listed.setIfInBounds i true) := by
  obtain ⟨_, oi, hoi, hall⟩ := mem_ready.1 hi
  refine ⟨by simp [inv.size], fun j oj hj hl e he hb => ?_, fun t ht ht' h0 => by rw [getD_set_ne true (by omega)]; exact inv.tail t ht ht' h0, fun t h0 => getD_set_true (inv.more t h0)⟩
  by_cases hij : i = j
  · subst hij
    have : oj = oi := Option.some.inj (hj.symm.trans hoi)
    subst this
    exact getD_set_true (hall e he hb)
  · rw [getD_set_ne false hij] at hl
    exact getD_set_true (inv.closed j oj hj hl e he hb)
theorem tailI_waits {n : Nat} {l0 listed : Array Bool} (hs : sinkI md ops n l0 = true) (hc : chainI md ops n l0 = true) (hn : n < ops.size) (hn0 : l0.getD n false = false) (inv : HeadI md ops n l0 listed) :
    ∀ (d i : Nat), n - i = d → i < n → listed.getD i true = false → ∀ t, n ≤ t → t ∉ Region.ready md ops listed := by
  intro d
  induction d using Nat.strongRecOn with
  | _ d ih =>
    intro i hd hi hun t ht hr
    obtain ⟨htun, ot, hot, hall⟩ := mem_ready.1 hr
    have htlt : t < ops.size := (Array.getElem?_eq_some_iff.1 hot).1
    by_cases htn : t = n
    · subst htn
      have h1 := List.all_eq_true.1 hs i (List.mem_range.2 hi)
      rw [Bool.or_eq_true] at h1
      rcases h1 with h1 | h1
      · have := inv.more i h1
        rw [getD_both hun] at this
        cases this
      obtain ⟨j, hj, hj2⟩ := List.any_eq_true.1 h1
      simp only [Bool.and_eq_true, decide_eq_true_eq] at hj2
      obtain ⟨oj, hoj, e, he, hb, hon⟩ := Region.waitsFor_spec hj2.2
      have hjle : j ≤ t := by have := List.mem_range.1 hj; omega
      by_cases hjt : j = t
      · subst hjt
        have : oj = ot := Option.some.inj (hoj.symm.trans hot)
        subst this
        have h2 := hall e he hb
        rw [hon, getD_both hun] at h2
        cases h2
      · cases hl : listed.getD j false with
        | true =>
          have h2 := inv.closed j oj hoj hl e he hb
          rw [hon, getD_both hun] at h2
          cases h2
        | false =>
          have hjs : j < listed.size := by rw [inv.size]; omega
          exact ih (t - j) (by omega) j rfl (by omega) (getD_in hjs hl) t (Nat.le_refl _) hr
    · have h1 := List.all_eq_true.1 hc t (List.mem_range.2 htlt)
      simp only [Bool.or_eq_true, decide_eq_true_eq] at h1
      rcases h1 with h1 | h1 | h1
      · omega
      · have := inv.more t h1
        rw [getD_both htun] at this
        cases this
      · obtain ⟨u, hu, hu2⟩ := List.any_eq_true.1 h1
        simp only [Bool.and_eq_true, decide_eq_true_eq, Bool.not_eq_true'] at hu2
        obtain ⟨hnu, hu0, hw⟩ := hu2
        obtain ⟨o', ho', e, he, hb, hon⟩ := Region.waitsFor_spec hw
        have : o' = ot := Option.some.inj (ho'.symm.trans hot)
        subst this
        have h2 := hall e he hb
        rw [hon, getD_both (inv.tail u hnu (by have := List.mem_range.1 hu; omega) hu0)] at h2
        cases h2
theorem wpAnyQI_first {n i : Nat} {oi : Oper} {v : Value} {l0 : Array Bool} {L : Array Bool → Act → Prop} (hi : ops[i]? = some oi) (hsel : ∀ (j : Nat) (o : Oper) cs b, ops[j]? = some o → o.op ≠ .select cs b)
    (hs : sinkI md ops n l0 = true) (hc : chainI md ops n l0 = true) (hn : n < ops.size) (hn0 : l0.getD n false = false) (hin : i < n)
    (hdone : ∀ listed a, L listed a → ∀ j ∈ Region.ready md ops listed, n ≤ j) :
    ∀ (f : Nat) (listed : Array Bool) (a : Act), HeadI md ops n l0 listed →
      (∀ j oj, ops[j]? = some oj → j ≠ i → listed.getD j true = false → (∀ e ∈ oj.after, Region.binds md e = true → e.on ≠ i) → oi.apart ops oj = true) →
      i ∈ Region.ready md ops listed → YieldsIn P ops C oi v a →
      wpAnyQL P md ops C n L f (listed.setIfInBounds i true) (a.put oi.dst v) → wpAnyQL P md ops C n L (f + 1) listed a := by
  intro f
  induction f with
  | zero =>
    intro listed a inv _ hr hy H
    have hun := (mem_ready.1 hr).1
    refine ⟨fun h => (by rw [h] at hr; cases hr), fun j hj => ?_⟩
    have hjn : j < n := by
      rcases Nat.lt_or_ge j n with h | h
      · exact h
      · exact absurd hj (tailI_waits hs hc hn hn0 inv _ i rfl hin hun j h)
    refine ⟨hjn, ?_⟩
    by_cases hji : j = i
    · subst hji; exact hy.qOp hi H
    · have := hdone _ _ H j (ready_mono hj hji)
      omega
  | succ f ih =>
    intro listed a inv hfree hr hy H
    have hun := (mem_ready.1 hr).1
    refine ⟨fun h => (by rw [h] at hr; cases hr), fun j hj => ?_⟩
    have hjn : j < n := by
      rcases Nat.lt_or_ge j n with h | h
      · exact h
      · exact absurd hj (tailI_waits hs hc hn hn0 inv _ i rfl hin hun j h)
    refine ⟨hjn, ?_⟩
    by_cases hji : j = i
    · subst hji; exact hy.qOp hi H
    · have h1 := (H.2 j (ready_mono hj hji)).2
      obtain ⟨hjun, oj, hoj, hall⟩ := mem_ready.1 hj
      have hnot : ∀ e ∈ oj.after, Region.binds md e = true → e.on ≠ i := fun e he hb heq => by
        have h1 := hall e he hb
        rw [heq, getD_both hun] at h1
        cases h1
      have h2 := qOp_put hoj (hfree j oj hoj hji hjun hnot) (fun cs b => hsel i oi cs b hi) (fun cs b => hsel j oj cs b hoj) hy h1
      have hfree' : ∀ k ok, ops[k]? = some ok → k ≠ i → (listed.setIfInBounds j true).getD k true = false →
          (∀ e ∈ ok.after, Region.binds md e = true → e.on ≠ i) → oi.apart ops ok = true := fun k ok hk hki hun hno => by
        refine hfree k ok hk hki ?_ hno
        by_cases hjk : j = k
        · subst hjk; exact hjun
        · rw [getD_set_ne true hjk] at hun; exact hun
      refine qOp_mono (fun a' h3 => ih (listed.setIfInBounds j true) a' (inv.set hj hjn) hfree' (ready_mono hr (Ne.symm hji)) h3.1 ?_) h2
      rw [Array.setIfInBounds_comm _ _ hji]
      exact h3.2
theorem seqI_ready {n : Nat} {ts : List Nat} {listed : Array Bool} (h : seqI md ops ts listed = true) (ht : ∀ t ∈ ts, n ≤ t) : ∀ j ∈ Region.ready md ops listed, n ≤ j := by
  cases ts with
  | nil => intro j hj; simp only [seqI, List.isEmpty_iff] at h; rw [h] at hj; cases hj
  | cons t ts =>
    intro j hj
    simp only [seqI, Bool.and_eq_true, decide_eq_true_eq] at h
    rw [h.1] at hj
    obtain rfl : j = t := by simpa using hj
    exact ht _ List.mem_cons_self
theorem wpAnyQI_lex {n : Nat} {ts : List Nat} {l0 : Array Bool} {Lq : Act → Prop} (hsel : Region.noSelect ops = true) (hs : sinkI md ops n l0 = true) (hc : chainI md ops n l0 = true) (hn : n < ops.size) (hn0 : l0.getD n false = false) (ht : ∀ t ∈ ts, n ≤ t) :
    ∀ (hs' : List Nat) (l : List Oper) (listed : Array Bool) (a : Act), hs'.map (fun i => ops[i]?) = l.map some → (∀ i ∈ hs', i < n) → HeadI md ops n l0 listed →
    lexI md ops ts hs' listed = true → wpQuiet P ops C Lq l a →
    wpAnyQL P md ops C n (fun listed' a' => seqI md ops ts listed' = true ∧ Lq a') hs'.length listed a
  | [], [], listed, a, _, _, _, hB, h => ⟨by simpa [lexI] using hB, h⟩
  | [], _ :: _, _, _, hm, _, _, _, _ => by simp at hm
  | _ :: _, [], _, _, hm, _, _, _, _ => by simp at hm
  | k :: ks, o :: l, listed, a, hm, hlt, inv, hB, h => by
    simp only [List.map_cons, List.cons.injEq] at hm
    have h0 : ops[k]? = some o := hm.1
    simp only [lexI, Bool.and_eq_true] at hB
    obtain ⟨⟨hr, hf⟩, hB'⟩ := hB
    have hkn : k < n := hlt k List.mem_cons_self
    have hr' : k ∈ Region.ready md ops listed := by simpa using hr
    have hst : qOp P ops C k (wpQuiet P ops C Lq l) a := by unfold qOp; simp only [h0]; exact h
    obtain ⟨v, hy, hK⟩ := yieldsIn_of_qOp h0 hst
    exact wpAnyQI_first h0 (Region.noSelect_spec hsel) hs hc hn hn0 hkn (fun listed' a' hL => seqI_ready hL.1 ht) ks.length listed a inv (Region.free_spec h0 hf) hr' hy
      (wpAnyQI_lex hsel hs hc hn hn0 ht ks l _ _ hm.2 (fun i hi => hlt i (List.mem_cons_of_mem _ hi)) (inv.set hr' hkn) hB' hK)
theorem wpAny_of_seqI {Q' : Exit → Act → World → Prop} : ∀ (ts : List Nat) (l : List Oper) (listed : Array Bool) (a : Act) (w : World), ts.map (fun i => ops[i]?) = l.map some →
    seqI md ops ts listed = true → wpList P ops Q' l a w → wpAny P md ops Q' ts.length listed a w
  | [], [], _, _, _, _, hB, h => ⟨by simpa [seqI] using hB, h⟩
  | [], _ :: _, _, _, _, hm, _, _ => by simp at hm
  | _ :: _, [], _, _, _, hm, _, _ => by simp at hm
  | t :: ts, o :: l, listed, a, w, hm, hB, h => by
    simp only [List.map_cons, List.cons.injEq] at hm
    have h0 : ops[t]? = some o := hm.1
    simp only [seqI, Bool.and_eq_true, decide_eq_true_eq] at hB
    refine ⟨fun h1 => (by rw [hB.1] at h1; cases h1), fun i hi => ?_⟩
    rw [hB.1] at hi
    obtain rfl : i = t := by simpa using hi
    have hw : wpOp P ops Q' i (wpList P ops Q' l) a w := by unfold wpOp; simp only [h0]; exact h
    exact wpOp_mono (fun a' w' h' => wpAny_of_seqI ts l _ a' w' hm.2 hB.2 h') hw
def headTailB (ops : Array Oper) (n : Nat) (hs ts : List Nat) (l0 : Array Bool) : Bool :=
  Region.noSelect ops && (decide (n < ops.size) && (sinkI .any ops n l0 && (chainI .any ops n l0 && (closedI .any ops l0 && (!l0.getD n false && (decide (l0.size = ops.size) && (lexI .any ops ts hs l0 && (hs.all (fun i => decide (i < n)) && ts.all (fun t => decide (n ≤ t))))))))))
theorem wpAny_head_tail {Q' : Exit → Act → World → Prop} {fuel : Nat} {l0 : Array Bool} {a : Act} {w : World} (n : Nat) (hs ts : List Nat) (hd tl : List Oper) (hf : fuel = hs.length + ts.length) (hC : C w)
    (hB : headTailB ops n hs ts l0 = true) (hhd : hs.map (fun i => ops[i]?) = hd.map some) (htl : ts.map (fun i => ops[i]?) = tl.map some)
    (h : wpQuiet P ops C (fun a' => ∀ w', C w' → wpList P ops Q' tl a' w') hd a) : wpAny P .any ops Q' fuel l0 a w := by
  simp only [headTailB, Bool.and_eq_true, decide_eq_true_eq, Bool.not_eq_true', List.all_eq_true] at hB
  obtain ⟨hsel, hn, hsk, hch, hcl, hn0, hsz, hlex, hlt, hge⟩ := hB
  subst hf
  have inv0 : HeadI .any ops n l0 l0 := by
    refine ⟨hsz, fun j oj hj hl e he hb => ?_, fun t _ ht h0 => getD_in (by omega) h0, fun t h0 => h0⟩
    have hjlt := (Array.getElem?_eq_some_iff.1 hj).1
    have h1 := List.all_eq_true.1 hcl j (List.mem_range.2 hjlt)
    simp only [hl, hj, Bool.not_true, Bool.false_or, Option.map_some, Option.getD_some] at h1
    have h2 := (Array.all_eq_true'.1 h1) e he
    simpa [hb] using h2
  have H := wpAnyQI_lex (md := .any) (C := C) hsel hsk hch hn hn0 hge hs hd l0 a hhd hlt inv0 hlex h
  exact wpAny_of_headQ (Q' := Q') (g := ts.length) (fun listed a' w' hw' hL => wpAny_of_seqI ts tl listed a' w' htl hL.1 (hL.2 w' hw')) _ _ _ _ hC H
/-- a callee that leaves the world as it is, met in a world of the class -/
theorem regrown_same {f : FuncId} {args : Array Value} {w : World} {d : Nat} {os : Array Obj} {v : Value}
    (h : Calls P f args (Go.Sort.grow (redrawn w d) os) fun e w' => e = .returned v ∧ Go.Sort.grow (redrawn w d) os = w') : Calls P f args (Go.Sort.grow (redrawn w d) os) fun e w'' => e = .returned v ∧ ∃ p : Regrown, w'' = Go.Sort.grow (redrawn w p.d) p.os :=
  h.mono fun _ _ ⟨he, hb⟩ => ⟨he, ⟨⟨d, os⟩, hb.symm⟩⟩
end
end Go.Proofs.YtgeedjlbajmdkaaGreatDoor
/- A region that draws its order, met by hand: loads are taken first under a condition on the world that need not hold any more behind the operations (E) that wait for all of them. Over any program. -/
namespace Go.Proofs.YtgeedjlbajmdkaaGreatDoor
open Go.RowKit

section
variable {P : Program} {ops : Array Oper} {md : Region.Mode} {Q : Exit → Act → World → Prop} {S : World → Prop} {E : List Nat}
def wpAnyHE (P : Program) (md : Region.Mode) (ops : Array Oper) (Q : Exit → Act → World → Prop) (S : World → Prop) (E : List Nat) : Nat → Array Bool → Act → World → Prop
  | 0, listed, a, w => Region.ready md ops listed = [] ∧ Q .normal a w
  | fuel + 1, listed, a, w =>
    (Region.ready md ops listed = [] → Q .normal a w) ∧
    ∀ i ∈ Region.ready md ops listed, wpOp P ops Q i (fun a' w' => (E.contains i = false → S w → S w') ∧ wpAnyHE P md ops Q S E fuel (listed.setIfInBounds i true) a' w') a w
theorem wpAny_of_HE : ∀ (fuel : Nat) (listed : Array Bool) (a : Act) (w : World), wpAnyHE P md ops Q S E fuel listed a w → wpAny P md ops Q fuel listed a w
  | 0, _, _, _, h => h
  | fuel + 1, _, _, _, h => ⟨h.1, fun i hi => wpOp_mono (fun a' w' h' => wpAny_of_HE fuel _ a' w' h'.2) (h.2 i hi)⟩
/-- each waits for the next -/
def pathW (md : Region.Mode) (ops : Array Oper) : List Nat → Bool
  | j :: i :: r => Region.waitsFor md ops j i && pathW md ops (i :: r)
  | _ => true
def Closed (md : Region.Mode) (ops : Array Oper) (listed : Array Bool) : Prop := ∀ (j : Nat) oj, ops[j]? = some oj → listed.getD j false = true → ∀ e ∈ oj.after, Region.binds md e = true → listed.getD e.on false = true
theorem Closed.of {listed : Array Bool} (h : closedI md ops listed = true) : Closed md ops listed := fun j oj hj hl e he hb => by
  have hjlt := (Array.getElem?_eq_some_iff.1 hj).1
  have h1 := List.all_eq_true.1 h j (List.mem_range.2 hjlt)
  simp only [hl, hj, Bool.not_true, Bool.false_or, Option.map_some, Option.getD_some] at h1
  have h2 := (Array.all_eq_true'.1 h1) e he
  simpa [hb] using h2
theorem Closed.set {listed : Array Bool} {i : Nat} (h : Closed md ops listed) (hi : i ∈ Region.ready md ops listed) : Closed md ops (listed.setIfInBounds i true) := fun j oj hj hl e he hb => by
  obtain ⟨_, oi, hoi, hall⟩ := mem_ready.1 hi
  by_cases hij : i = j
  · subst hij
    have : oj = oi := Option.some.inj (hj.symm.trans hoi)
    subst this
    exact getD_set_true (hall e he hb)
  · rw [getD_set_ne false hij] at hl
    exact getD_set_true (h j oj hj hl e he hb)
theorem path_listed {listed : Array Bool} (hc : Closed md ops listed) : ∀ (l : List Nat) (j : Nat), listed.getD j false = true → pathW md ops (j :: l) = true → ∀ i ∈ l, listed.getD i false = true
  | [], _, _, _, i, hi => by cases hi
  | k :: l, j, hj, hp, i, hi => by
    simp only [pathW, Bool.and_eq_true] at hp
    obtain ⟨oj, hoj, e, he, hb, hon⟩ := Region.waitsFor_spec hp.1
    have hk : listed.getD k false = true := hon ▸ hc j oj hoj hj e he hb
    rcases List.mem_cons.1 hi with rfl | hi
    · exact hk
    · exact path_listed hc l k hk hp.2 i hi
theorem path_ready {listed : Array Bool} (hc : Closed md ops listed) {j : Nat} (hj : j ∈ Region.ready md ops listed) : ∀ {l : List Nat}, pathW md ops (j :: l) = true → ∀ i ∈ l, listed.getD i false = true
  | [], _, i, hi => by cases hi
  | k :: l, hp, i, hi => by
    simp only [pathW, Bool.and_eq_true] at hp
    obtain ⟨oj, hoj, e, he, hb, hon⟩ := Region.waitsFor_spec hp.1
    obtain ⟨_, oj', hoj', hall⟩ := mem_ready.1 hj
    have : oj = oj' := Option.some.inj (hoj.symm.trans hoj')
    subst this
    have hk : listed.getD k false = true := hon ▸ hall e he hb
    rcases List.mem_cons.1 hi with rfl | hi
    · exact hk
    · exact path_listed hc l k hk hp.2 i hi
def pathsB (md : Region.Mode) (ops : Array Oper) (i : Nat) : List Nat → List (List Nat) → Bool
  | [], _ => true
  | e :: E, p :: ps => pathW md ops (e :: p) && (p.contains i && pathsB md ops i E ps)
  | _ :: _, [] => false
theorem pathsB_of {i : Nat} : ∀ {E : List Nat} {ps : List (List Nat)}, pathsB md ops i E ps = true → ∀ j ∈ E, ∃ p, pathW md ops (j :: p) = true ∧ i ∈ p
  | [], _, _, j, hj => by cases hj
  | e :: E, [], h, _, _ => by simp [pathsB] at h
  | e :: E, p :: ps, h, j, hj => by
    simp only [pathsB, Bool.and_eq_true] at h
    rcases List.mem_cons.1 hj with rfl | hj
    · exact ⟨p, h.1, by simpa using h.2.1⟩
    · exact pathsB_of h.2.2 j hj
theorem wpAnyHE_first {i : Nat} {oi : Oper} {v : Value} (hi : ops[i]? = some oi) (hsel : ∀ (j : Nat) (o : Oper) cs b, ops[j]? = some o → o.op ≠ .select cs b)
    (hQ : ∀ c a w, Q (.panic c) (a.put oi.dst v) w → Q (.panic c) a w) (hE : ∀ j ∈ E, ∃ p, pathW md ops (j :: p) = true ∧ i ∈ p) :
    ∀ (fuel : Nat) (listed : Array Bool) (a : Act) (w : World), Closed md ops listed →
      (∀ j oj, ops[j]? = some oj → j ≠ i → listed.getD j true = false → (∀ e ∈ oj.after, Region.binds md e = true → e.on ≠ i) → oi.apart ops oj = true) →
      i ∈ Region.ready md ops listed → YieldsIf P ops S oi v a → S w →
      wpAnyHE P md ops Q S E fuel (listed.setIfInBounds i true) (a.put oi.dst v) w → wpAnyHE P md ops Q S E (fuel + 1) listed a w := by
  intro fuel
  induction fuel with
  | zero =>
    intro listed a w _ _ hr hy hS H
    refine ⟨fun h => (by rw [h] at hr; cases hr), fun j hj => ?_⟩
    by_cases hji : j = i
    · subst hji; exact hy.wpOp hi hS ⟨fun _ h => h, H⟩
    · have := ready_mono hj hji
      rw [H.1] at this
      cases this
  | succ fuel ih =>
    intro listed a w hcl hfree hr hy hS H
    refine ⟨fun h => (by rw [h] at hr; cases hr), fun j hj => ?_⟩
    by_cases hji : j = i
    · subst hji; exact hy.wpOp hi hS ⟨fun _ h => h, H⟩
    · have h1 := H.2 j (ready_mono hj hji)
      obtain ⟨hjun, oj, hoj, hall⟩ := mem_ready.1 hj
      have hiun := (mem_ready.1 hr).1
      have hnot : ∀ e ∈ oj.after, Region.binds md e = true → e.on ≠ i := fun e he hb heq => by
        have h1 := hall e he hb
        rw [heq, getD_both hiun] at h1
        cases h1
      have hjE : E.contains j = false := by
        rw [Bool.eq_false_iff]
        intro h
        obtain ⟨p, hp, hip⟩ := hE j (by simpa using h)
        have := path_ready hcl hj hp i hip
        rw [getD_both hiun] at this
        cases this
      have h2 := wpOp_putIf hoj (hfree j oj hoj hji hjun hnot) (fun cs b => hsel i oi cs b hi) (fun cs b => hsel j oj cs b hoj) hQ hy h1
      have hfree' : ∀ k ok, ops[k]? = some ok → k ≠ i → (listed.setIfInBounds j true).getD k true = false →
          (∀ e ∈ ok.after, Region.binds md e = true → e.on ≠ i) → oi.apart ops ok = true := fun k ok hk hki hun hno => by
        refine hfree k ok hk hki ?_ hno
        by_cases hjk : j = k
        · subst hjk; exact hjun
        · rw [getD_set_ne true hjk] at hun; exact hun
      refine wpOp_mono (fun a' w' h3 => ⟨h3.2.1, ih (listed.setIfInBounds j true) a' w' (hcl.set hj) hfree' (ready_mono hr (Ne.symm hji)) h3.1 (h3.2.1 hjE hS) ?_⟩) h2
      rw [Array.setIfInBounds_comm _ _ hji]
      exact h3.2.2
/-- one that hangs on no world -/
theorem wpAnyHE_firstP {i : Nat} {oi : Oper} {v : Value} (hi : ops[i]? = some oi) (hsel : ∀ (j : Nat) (o : Oper) cs b, ops[j]? = some o → o.op ≠ .select cs b)
    (hQ : ∀ c a w, Q (.panic c) (a.put oi.dst v) w → Q (.panic c) a w) :
    ∀ (fuel : Nat) (listed : Array Bool) (a : Act) (w : World),
      (∀ j oj, ops[j]? = some oj → j ≠ i → listed.getD j true = false → (∀ e ∈ oj.after, Region.binds md e = true → e.on ≠ i) → oi.apart ops oj = true) →
      i ∈ Region.ready md ops listed → YieldsIf P ops (fun _ => True) oi v a →
      wpAnyHE P md ops Q S E fuel (listed.setIfInBounds i true) (a.put oi.dst v) w → wpAnyHE P md ops Q S E (fuel + 1) listed a w := by
  intro fuel
  induction fuel with
  | zero =>
    intro listed a w _ hr hy H
    refine ⟨fun h => (by rw [h] at hr; cases hr), fun j hj => ?_⟩
    by_cases hji : j = i
    · subst hji; exact hy.wpOp hi trivial ⟨fun _ h => h, H⟩
    · have := ready_mono hj hji
      rw [H.1] at this
      cases this
  | succ fuel ih =>
    intro listed a w hfree hr hy H
    refine ⟨fun h => (by rw [h] at hr; cases hr), fun j hj => ?_⟩
    by_cases hji : j = i
    · subst hji; exact hy.wpOp hi trivial ⟨fun _ h => h, H⟩
    · have h1 := H.2 j (ready_mono hj hji)
      obtain ⟨hjun, oj, hoj, hall⟩ := mem_ready.1 hj
      have hiun := (mem_ready.1 hr).1
      have hnot : ∀ e ∈ oj.after, Region.binds md e = true → e.on ≠ i := fun e he hb heq => by
        have h1 := hall e he hb
        rw [heq, getD_both hiun] at h1
        cases h1
      have h2 := wpOp_putIf hoj (hfree j oj hoj hji hjun hnot) (fun cs b => hsel i oi cs b hi) (fun cs b => hsel j oj cs b hoj) hQ hy h1
      have hfree' : ∀ k ok, ops[k]? = some ok → k ≠ i → (listed.setIfInBounds j true).getD k true = false →
          (∀ e ∈ ok.after, Region.binds md e = true → e.on ≠ i) → oi.apart ops ok = true := fun k ok hk hki hun hno => by
        refine hfree k ok hk hki ?_ hno
        by_cases hjk : j = k
        · subst hjk; exact hjun
        · rw [getD_set_ne true hjk] at hun; exact hun
      refine wpOp_mono (fun a' w' h3 => ⟨h3.2.1, ih (listed.setIfInBounds j true) a' w' hfree' (ready_mono hr (Ne.symm hji)) h3.1 ?_⟩) h2
      rw [Array.setIfInBounds_comm _ _ hji]
      exact h3.2.2
theorem wpAnyHE_take {i : Nat} {oi : Oper} {v : Value} {fuel : Nat} {listed : Array Bool} {a : Act} {w : World} (ps : List (List Nat)) (hi : ops[i]? = some oi)
    (hs : Region.noSelect ops = true) (hf : Region.free md ops listed i = true) (hr : (Region.ready md ops listed).contains i = true) (hcl : closedI md ops listed = true) (hps : pathsB md ops i E ps = true)
    (hQ : ∀ c a w, Q (.panic c) (a.put oi.dst v) w → Q (.panic c) a w) (hy : YieldsIf P ops S oi v a) (hS : S w)
    (h : wpAnyHE P md ops Q S E fuel (listed.setIfInBounds i true) (a.put oi.dst v) w) : wpAnyHE P md ops Q S E (fuel + 1) listed a w :=
  wpAnyHE_first hi (Region.noSelect_spec hs) hQ (pathsB_of hps) fuel listed a w (Closed.of hcl) (Region.free_spec hi hf) (by simpa using hr) hy hS h
theorem wpAnyHE_takeP {i : Nat} {oi : Oper} {v : Value} {fuel : Nat} {listed : Array Bool} {a : Act} {w : World} (hi : ops[i]? = some oi)
    (hs : Region.noSelect ops = true) (hf : Region.free md ops listed i = true) (hr : (Region.ready md ops listed).contains i = true)
    (hQ : ∀ c a w, Q (.panic c) (a.put oi.dst v) w → Q (.panic c) a w) (hy : YieldsIf P ops (fun _ => True) oi v a)
    (h : wpAnyHE P md ops Q S E fuel (listed.setIfInBounds i true) (a.put oi.dst v) w) : wpAnyHE P md ops Q S E (fuel + 1) listed a w :=
  wpAnyHE_firstP hi (Region.noSelect_spec hs) hQ fuel listed a w (Region.free_spec hi hf) (by simpa using hr) hy h
theorem wpAnyHE_done {listed : Array Bool} {a : Act} {w : World} (hr : Region.ready md ops listed = []) (h : Q .normal a w) :
    ∀ fuel, wpAnyHE P md ops Q S E fuel listed a w
  | 0 => ⟨hr, h⟩
  | _ + 1 => ⟨fun _ => h, by rw [hr]; simp⟩
def AllReadyE (P : Program) (md : Region.Mode) (ops : Array Oper) (Q : Exit → Act → World → Prop) (S : World → Prop) (E : List Nat) (fuel : Nat) (listed : Array Bool) (a : Act) (w : World) (rs : List Nat) : Prop :=
  ∀ i ∈ rs, wpOp P ops Q i (fun a' w' => (E.contains i = false → S w → S w') ∧ wpAnyHE P md ops Q S E fuel (listed.setIfInBounds i true) a' w') a w
theorem AllReadyE.nil {fuel : Nat} {listed : Array Bool} {a : Act} {w : World} : AllReadyE P md ops Q S E fuel listed a w [] := fun _ h => by cases h
theorem AllReadyE.cons {fuel : Nat} {listed : Array Bool} {a : Act} {w : World} {i : Nat} {o : Oper} {rs : List Nat} (ho : ops[i]? = some o)
    (h : ∀ K' : Act → World → Prop, Shut (∀ a w, S w → (S w → wpAnyHE P md ops Q S E fuel (listed.setIfInBounds i true) a w) → K' a w) → if Region.wanted o (yielded ops a.tmps) = true then Oper.wp P o a w K' Q else K' (a.put o.dst undef) w)
    (hs : AllReadyE P md ops Q S E fuel listed a w rs) : AllReadyE P md ops Q S E fuel listed a w (i :: rs) := fun j hj => by
  rcases List.mem_cons.1 hj with rfl | hj
  · exact wpOp_step ho (fun K' hK => h K' (fun a w hS hW => hK a w ⟨fun _ _ => hS, hW hS⟩))
  · exact hs j hj
/-- one of E: the condition need not hold behind it -/
theorem AllReadyE.consE {fuel : Nat} {listed : Array Bool} {a : Act} {w : World} {i : Nat} {o : Oper} {rs : List Nat} (ho : ops[i]? = some o) (hi : E.contains i = true)
    (h : ∀ K' : Act → World → Prop, Shut (∀ a w, wpAnyHE P md ops Q S E fuel (listed.setIfInBounds i true) a w → K' a w) → if Region.wanted o (yielded ops a.tmps) = true then Oper.wp P o a w K' Q else K' (a.put o.dst undef) w)
    (hs : AllReadyE P md ops Q S E fuel listed a w rs) : AllReadyE P md ops Q S E fuel listed a w (i :: rs) := fun j hj => by
  rcases List.mem_cons.1 hj with rfl | hj
  · exact wpOp_step ho (fun K' hK => h K' (fun a w hW => hK a w ⟨fun h => (by rw [hi] at h; cases h), hW⟩))
  · exact hs j hj
theorem wpAnyHE_ready {rs : List Nat} {fuel : Nat} {listed : Array Bool} {a : Act} {w : World} (hr : Region.ready md ops listed = rs) (hne : rs ≠ [])
    (h : AllReadyE P md ops Q S E fuel listed a w rs) : wpAnyHE P md ops Q S E (fuel + 1) listed a w := ⟨fun h0 => absurd (hr ▸ h0) hne, hr ▸ h⟩
theorem wp_region_heldE_drew {id : Nat} {a : Act} {w : World} (hm : P.follows .mixedOrders = true) (hS : S w.drew)
    (h : S w.drew → wpAnyHE P .any ops Q S E ops.size (Array.replicate ops.size false) a w.drew) : (Code.region id ops true).wp P Q a w :=
  wp_region_any hm (wpAny_of_HE _ _ _ _ (h hS))
end
end Go.Proofs.YtgeedjlbajmdkaaGreatDoor
namespace Go.Proofs.YtgeedjlbajmdkaaGreatDoor
open Go.RowKit

theorem replaceK_one {c : UInt8} (new : List UInt8) : ∀ (n : Nat) (l : List UInt8), l.length ≤ n → Lib.replaceK [c] new (Lib.count l [c]) l = l.flatMap fun b => if b = c then new else [b] := by
  intro n
  induction n with
  | zero =>
    intro l hl
    have : l = [] := List.length_eq_zero_iff.1 (by omega)
    subst this
    rw [Lib.count_miss (index_no (by simp))]; rfl
  | succ n ih =>
    intro l hl
    have plain : ∀ A : List UInt8, c ∉ A → (A.flatMap fun b => if b = c then new else [b]) = A := by
      intro A
      induction A with
      | nil => intro _; rfl
      | cons b A ih2 =>
        intro h
        rw [List.mem_cons, not_or] at h
        rw [List.flatMap_cons, ih2 h.2, if_neg (fun e => h.1 e.symm)]; rfl
    rcases first_of c l with h | ⟨A, B, rfl, hA⟩
    · rw [Lib.count_miss (index_no h), plain l h]; rfl
    · have hi := index_yes (B := B) hA
      rw [Lib.count_hit (by simp) hi, Nat.add_comm, Lib.replaceK_hit _ _ _ _ _ hi]
      have e1 : (A ++ c :: B).take A.length = A := by simp
      have e2 : (A ++ c :: B).drop (A.length + [c].length) = B := by simp
      rw [e1, e2, ih B (by simp at hl; omega), List.flatMap_append, plain A hA, List.flatMap_cons, if_pos rfl]
      simp
theorem replaceAll_one {c : UInt8} {new : List UInt8} (h : [c] ≠ new) (l : List UInt8) : Lib.replaceAll l [c] new = l.flatMap fun b => if b = c then new else [b] := by
  unfold Lib.replaceAll Lib.replace
  rw [if_neg (by simpa using h)]
  have e : Lib.replaceNum l [c] (-1) = Lib.count l [c] := by unfold Lib.replaceNum; rw [if_pos (.inl (by decide))]
  rw [e]
  exact replaceK_one new _ l (Nat.le_refl _)
theorem escB_two (l : List UInt8) : ((l.flatMap fun b => if b = 92 then [92, 92] else [b]).flatMap fun b => if b = 34 then [92, 34] else [b]) = escB l := by
  induction l with
  | nil => rfl
  | cons b l ih =>
    have e : escB (b :: l) = (if b = 34 ∨ b = 92 then [92, b] else [b]) ++ escB l := rfl
    rw [List.flatMap_cons, List.flatMap_append, ih, e]
    congr 1
    by_cases h1 : b = 92
    · subst h1; decide
    · by_cases h2 : b = 34
      · subst h2; decide
      · simp [h1, h2]
theorem escB_len (l : List UInt8) : (escB l).length ≤ 2 * l.length := by
  induction l with
  | nil => simp [escB]
  | cons b l ih =>
    have e : escB (b :: l) = (if b = 34 ∨ b = 92 then [92, b] else [b]) ++ escB l := rfl
    rw [e, List.length_append, List.length_cons]
    split <;> simp <;> omega
theorem esc1_len (l : List UInt8) : (l.flatMap fun b => if b = (92 : UInt8) then [92, 92] else [b]).length ≤ 2 * l.length := by
  induction l with
  | nil => simp
  | cons b l ih =>
    rw [List.flatMap_cons, List.length_append, List.length_cons]
    split <;> simp only [List.length_cons, List.length_nil] <;> omega
theorem countB_le {c : UInt8} (s : ByteArray) : Lib.countB s ⟨#[c]⟩ ≤ s.size := by
  have := Lib.countB_mul_le ⟨#[c]⟩ (Nat.le_refl 1) s.size s (Nat.le_refl _)
  have e : (⟨#[c]⟩ : ByteArray).size = 1 := rfl
  rw [e] at this; omega
theorem Replace_one (s : ByteArray) (c : UInt8) (n1 n2 : UInt8) (w : World) (hg : GM w) (hs : s.size ≤ 1000000) :
    Calls Tryz.prog 87 #[.string s, .string ⟨#[c]⟩, .string ⟨#[n1, n2]⟩] w fun e w' => e = .returned (.string (tx (s.data.toList.flatMap fun b => if b = c then [n1, n2] else [b]))) ∧ Below w.heap.size w w' := by
  obtain ⟨m, hm⟩ := hg
  have h2 : (⟨#[n1, n2]⟩ : ByteArray).size = 2 := rfl
  refine (Tryz.strings_ReplaceAll s ⟨#[c]⟩ ⟨#[n1, n2]⟩ m w (by omega) hm (Nat.le_refl 1) (by have := countB_le (c := c) s; rw [h2]; omega)).mono ?_
  rintro e w' ⟨rfl, hb⟩
  refine ⟨?_, hb⟩
  have e1 : (⟨#[c]⟩ : ByteArray).data.toList = [c] := rfl
  have e2 : (⟨#[n1, n2]⟩ : ByteArray).data.toList = [n1, n2] := rfl
  rw [e1, e2, replaceAll_one (by simp)]
  rfl
set_option maxRecDepth 100000 in
set_option maxHeartbeats 1000000 in
theorem quote_any (s : ByteArray) (w : World) (hg : GM w) (hs : s.size ≤ 100000) :
    Calls Tryz.prog 44 #[.string s] w fun e w' => e = .returned (.string (tx (quoteL s.data.toList))) ∧ Below w.heap.size w w' := by
  have H1 := hide (Replace_one s 92 92 92 w hg (by omega))
  have HL : Hid ((tx (s.data.toList.flatMap fun b => if b = (92 : UInt8) then [92, 92] else [b])).size ≤ 200000) := by
    show _ ≤ _
    rw [tx_size]; have := esc1_len s.data.toList; rw [tl_len] at this; omega
  have H2 := hide fun w' (hb : Below w.heap.size w w') => Replace_one (tx (s.data.toList.flatMap fun b => if b = (92 : UInt8) then [92, 92] else [b])) 34 92 34 w' (hg.later hb (Nat.le_refl _)) (by have := HL.out; omega)
  rw [tx_list, escB_two] at H2
  have HQ : Hid ((⟨#[34]⟩ ++ tx (escB s.data.toList)) ++ ⟨#[34]⟩ = tx (quoteL s.data.toList)) := by
    show _ = _
    apply tl_inj
    rw [tl, tl, tx_list]
    simp [tx, ByteArray.data_append, quoteL]
  have hE : (tx (escB s.data.toList)).size ≤ 200000 := by rw [tx_size]; have := escB_len s.data.toList; rw [tl_len] at this; omega
  generalize tx (s.data.toList.flatMap fun b => if b = (92 : UInt8) then [92, 92] else [b]) = A at *
  generalize tx (escB s.data.toList) = B at *
  have n1 : ¬ 9223372036854775807 < 1 + B.size := by omega
  have n2 : ¬ 9223372036854775807 < 1 + B.size + 1 := by omega
  clear hg hs
  go_enter Tryz.func44, Tryz.ntmps44
  go_wp2_with fail
  refine H1.out.mono ?_
  rintro e w1 ⟨rfl, b1⟩
  have HB1 := hide b1
  clear b1
  go_wp2_with fail
  refine (H2.out _ HB1.out).mono ?_
  rintro e w2 ⟨rfl, b2⟩
  have HB2 := hide (HB1.out.trans (b2.mono HB1.out.size))
  clear b2
  go_wp2
  go_ret
  exact ⟨by rw [← HQ.out]; rfl, HB2.out⟩
end Go.Proofs.YtgeedjlbajmdkaaGreatDoor
