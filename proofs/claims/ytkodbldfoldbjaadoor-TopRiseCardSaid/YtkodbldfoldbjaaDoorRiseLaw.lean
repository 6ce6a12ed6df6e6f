/- Groups of pairs that rise: their keys rise, none is there twice, none is lost. -/
import Derived.Test.YtkodbldfoldbjaaDoorFoldLaw
import Derived.Test.YtkodbldfoldbjaaDoorSortLaw
set_option linter.unusedSimpArgs false
set_option linter.unusedVariables false
namespace Go.Proofs.YtkodbldfoldbjaaDoor
open Go.RowKit

theorem klt_key {a b c d : Pr} (h1 : a.1 = c.1) (h2 : b.1 = d.1) : klt a b = klt c d := by unfold klt; rw [h1, h2]
theorem mem_gstep {k : Int} {out : List Pr} {p q : Pr} (h : q ∈ gstep k out p) : (∃ x ∈ out, q.1 = x.1) ∨ q.1 = p.1 := by
  rcases list_end out with rfl | ⟨S, r, rfl⟩
  · rw [gstep_nil] at h
    right; rw [List.mem_singleton.1 h]
  · by_cases e : r.1 = p.1
    · rw [gstep_same e] at h
      rcases List.mem_append.1 h with h | h
      · exact .inl ⟨q, List.mem_append_left _ h, rfl⟩
      · exact .inl ⟨r, by simp, by rw [List.mem_singleton.1 h]⟩
    · rw [gstep_other e] at h
      rcases List.mem_append.1 h with h | h
      · exact .inl ⟨q, h, rfl⟩
      · right; rw [List.mem_singleton.1 h]
theorem gstep_mem {k : Int} {out : List Pr} {p x : Pr} (h : x ∈ out ∨ x = p) : ∃ q ∈ gstep k out p, q.1 = x.1 := by
  rcases list_end out with rfl | ⟨S, r, rfl⟩
  · rw [gstep_nil]
    rcases h with h | h
    · cases h
    · exact ⟨p, by simp, by rw [h]⟩
  · by_cases e : r.1 = p.1
    · rw [gstep_same e]
      rcases h with h | h
      · rcases List.mem_append.1 h with h | h
        · exact ⟨x, List.mem_append_left _ h, rfl⟩
        · exact ⟨(r.1, two k r.2 p.2), by simp, by rw [List.mem_singleton.1 h]⟩
      · exact ⟨(r.1, two k r.2 p.2), by simp, by rw [h]; exact e⟩
    · rw [gstep_other e]
      rcases h with h | h
      · exact ⟨x, List.mem_append_left _ h, rfl⟩
      · exact ⟨p, by simp, by rw [h]⟩
theorem groups_of (k : Int) : ∀ (l : List Pr), ∀ q ∈ groups k l, ∃ p ∈ l, q.1 = p.1 := by
  intro l
  induction l using rev_ind2 with
  | h0 => intro q h; simp [groups] at h
  | hs l p ih =>
    intro q h
    rw [groups_snoc] at h
    rcases mem_gstep h with ⟨x, hx, e⟩ | e
    · obtain ⟨y, hy, e2⟩ := ih x hx
      exact ⟨y, List.mem_append_left _ hy, e.trans e2⟩
    · exact ⟨p, by simp, e⟩
/-- none is lost -/
theorem groups_has (k : Int) : ∀ (l : List Pr), ∀ p ∈ l, ∃ q ∈ groups k l, q.1 = p.1 := by
  intro l
  induction l using rev_ind2 with
  | h0 => intro q h; cases h
  | hs l p ih =>
    intro x h
    rw [groups_snoc]
    rcases List.mem_append.1 h with h | h
    · obtain ⟨y, hy, e⟩ := ih x h
      obtain ⟨z, hz, e2⟩ := gstep_mem (k := k) (p := p) (.inl hy)
      exact ⟨z, hz, e2.trans e⟩
    · exact gstep_mem (.inr (List.mem_singleton.1 h))
/-- they rise -/
theorem groups_incr (k : Int) : ∀ (l : List Pr), Rise l → (groups k l).Pairwise fun a b => klt a b = true := by
  intro l
  induction l using rev_ind2 with
  | h0 => intro _; simp [groups]
  | hs l p ih =>
    intro h
    obtain ⟨h1, _, h2⟩ := Rise.append.1 h
    have h3 := ih h1
    have h4 := groups_of k l
    rw [groups_snoc]
    rcases list_end (groups k l) with e | ⟨S, q, e⟩
    · rw [e, gstep_nil]; simp
    · rw [e] at h3 h4 ⊢
      obtain ⟨p1, _, p3⟩ := List.pairwise_append.1 h3
      by_cases he : q.1 = p.1
      · rw [gstep_same he]
        refine List.pairwise_append.2 ⟨p1, by simp, fun a ha b hb => ?_⟩
        obtain rfl := List.mem_singleton.1 hb
        rw [klt_key (a := a) (b := (q.1, two k q.2 p.2)) (c := a) (d := q) rfl rfl]
        exact p3 a ha q (by simp)
      · rw [gstep_other he]
        have hq : klt q p = true := by
          obtain ⟨y, hy, ey⟩ := h4 q (by simp)
          have h5 := h2 y hy p (by simp)
          rw [← klt_key (a := p) (b := q) rfl ey] at h5
          rcases bl_tri q.1.toList p.1.toList with h6 | h6 | h6
          · exact h6
          · exact absurd (tl_inj h6) he
          · unfold klt at h5; rw [h6] at h5; cases h5
        refine List.pairwise_append.2 ⟨h3, by simp, fun a ha b hb => ?_⟩
        obtain rfl := List.mem_singleton.1 hb
        rcases List.mem_append.1 ha with ha | ha
        · exact klt_trans (p3 a ha q (by simp)) hq
        · rw [List.mem_singleton.1 ha]; exact hq
end Go.Proofs.YtkodbldfoldbjaaDoor
