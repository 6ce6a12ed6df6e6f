/- The plain law of 'pickTo': whom it tells, and that no other one has less of what is due to it. -/
import Derived.Test.YtllibbdgnjcchacQueue
namespace Go.Proofs.Ytllibbdgnjcchac

theorem qfault_zero' {l : List (Int × Int)} (h : qfault l = 0) : 1 ≤ l.length ∧ l.length ≤ 4 ∧ ∀ q ∈ l, 1 ≤ q.1 ∧ q.1 ≤ 9 ∧ 0 ≤ q.2 ∧ q.2 ≤ 12 := by
  obtain ⟨h1, h2, _⟩ := qfault_zero h
  refine ⟨h1, h2, fun q hq => ?_⟩
  unfold qfault at h
  rw [if_neg (by omega)] at h
  split at h
  · omega
  · rename_i h3
    have hf : qbad q = false := by
      cases hb : qbad q
      · rfl
      · exact absurd (List.any_eq_true.2 ⟨q, hq, hb⟩) h3
    simp only [qbad, Bool.or_eq_false_iff, decide_eq_false_iff_not] at hf
    omega

/-- i wants something, and may have more: it has h, weighs w, may have c -/
structure Elig (l : List (Int × Int)) (has : List Int) (wants : List Bool) (i : Nat) (h w c : Int) : Prop where
  ea : has[i]? = some h
  eb : l[i]? = some (w, c)
  ec : wants[i]? = some true
  ed : h < c

def Best (l : List (Int × Int)) (has : List Int) (wants : List Bool) (n : Nat) (b : Int) : Prop :=
  (b = -1 ∧ ∀ i h w c, i < n → ¬ Elig l has wants i h w c) ∨
  ∃ (m : Nat) (y v d : Int), b = m ∧ m < n ∧ Elig l has wants m y v d ∧ ∀ i h w c, i < n → Elig l has wants i h w c → ¬ h * v < y * w

theorem cross {x y z a b c : Int} (hc : 1 ≤ c) (ha : 1 ≤ a) (hb : 1 ≤ b) (h1 : z * b < y * c) (h2 : ¬ x * b < y * a) : ¬ x * c < z * a := by
  intro h3
  -- x c < z a; z b < y c: so x c b < z a b < y c a
  have e1 : x * c * b < z * a * b := Int.mul_lt_mul_of_pos_right h3 (by omega)
  have e2 : z * b * a < y * c * a := Int.mul_lt_mul_of_pos_right h1 (by omega)
  have e3 : z * a * b = z * b * a := by rw [Int.mul_assoc, Int.mul_comm a b, ← Int.mul_assoc]
  have e4 : x * c * b = x * b * c := by rw [Int.mul_assoc, Int.mul_comm c b, ← Int.mul_assoc]
  have e5 : y * c * a = y * a * c := by rw [Int.mul_assoc, Int.mul_comm c a, ← Int.mul_assoc]
  have e6 : x * b * c < y * a * c := by rw [← e4, ← e5]; omega
  exact h2 (Int.lt_of_mul_lt_mul_right e6 (by omega))

theorem Elig.inj {l has wants i h w c h' w' c'} (e : Elig l has wants i h w c) (e' : Elig l has wants i h' w' c') : h = h' ∧ w = w' ∧ c = c' := by
  have := e.ea.symm.trans e'.ea
  have := e.eb.symm.trans e'.eb
  simp_all

theorem pick_best {l : List (Int × Int)} {has : List Int} {wants : List Bool} (hw : ∀ q ∈ l, 1 ≤ q.1) (n : Nat) : Best l has wants n (pickTo l has wants n) := by
  have pos : ∀ {i h w c}, Elig l has wants i h w c → 1 ≤ w := fun e => hw _ (List.mem_of_getElem? e.eb)
  induction n with
  | zero => exact .inl ⟨rfl, fun i h w c hi => by omega⟩
  | succ n ih =>
    show Best l has wants (n + 1) (pstep l has wants (pickTo l has wants n) n)
    by_cases he : ∃ h w c, Elig l has wants n h w c
    · obtain ⟨h, w, c, e⟩ := he
      rcases ih with ⟨hb, hno⟩ | ⟨m, y, v, d, hb, hm, em, hall⟩
      · rw [hb, pstep_first e.ea e.eb e.ec (by have := e.ed; omega) (by decide)]
        refine .inr ⟨n, h, w, c, rfl, by omega, e, fun i h' w' c' hi e' => ?_⟩
        by_cases hin : i = n
        · subst hin; obtain ⟨rfl, rfl, rfl⟩ := e.inj e'; omega
        · exact absurd e' (hno i h' w' c' (by omega))
      · rw [hb]
        by_cases hl : h * v < y * w
        · rw [pstep_less e.ea e.eb e.ec (by have := e.ed; omega) em.ea em.eb hl]
          refine .inr ⟨n, h, w, c, rfl, by omega, e, fun i h' w' c' hi e' => ?_⟩
          by_cases hin : i = n
          · subst hin; obtain ⟨rfl, rfl, rfl⟩ := e.inj e'; omega
          · exact cross (pos e) (pos e') (pos em) hl (hall i h' w' c' (by omega) e')
        · rw [pstep_more e.ea e.eb e.ec (by have := e.ed; omega) em.ea em.eb hl]
          refine .inr ⟨m, y, v, d, rfl, by omega, em, fun i h' w' c' hi e' => ?_⟩
          by_cases hin : i = n
          · subst hin; obtain ⟨rfl, rfl, rfl⟩ := e.inj e'; exact hl
          · exact hall i h' w' c' (by omega) e'
    · have hs : pstep l has wants (pickTo l has wants n) n = pickTo l has wants n := by
        unfold pstep
        split
        · rename_i h w c h1 h2 h3
          split
          · rfl
          · exact absurd ⟨h, w, c, ⟨h1, h3, h2, by omega⟩⟩ he
        · rfl
      rw [hs]
      have hno : ∀ h w c, ¬ Elig l has wants n h w c := fun h w c e => he ⟨h, w, c, e⟩
      rcases ih with ⟨hb, h1⟩ | ⟨m, y, v, d, hb, hm, em, hall⟩
      · exact .inl ⟨hb, fun i h w c hi e => by
          by_cases hin : i = n
          · subst hin; exact hno _ _ _ e
          · exact h1 i h w c (by omega) e⟩
      · exact .inr ⟨m, y, v, d, hb, by omega, em, fun i h w c hi e => by
          by_cases hin : i = n
          · subst hin; exact absurd e (hno _ _ _)
          · exact hall i h w c (by omega) e⟩
end Go.Proofs.Ytllibbdgnjcchac
