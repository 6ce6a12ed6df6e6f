/- TopStop: the law's walk. -/
import Derived.Test.YtgeedjlbajmdkaaGreatDoorRefMade
import Derived.Test.YtgeedjlbajmdkaaGreatDoorMSave
import Derived.Test.YtgeedjlbajmdkaaGreatDoorOne
import Derived.Test.YtgeedjlbajmdkaaGreatDoorJobCheck
import Derived.Test.YtgeedjlbajmdkaaGreatDoorOrder2
import Derived.Test.YtgeedjlbajmdkaaGreatDoorRefFold
import Derived.Test.YtgeedjlbajmdkaaGreatDoorPair4
import Derived.Test.YtgeedjlbajmdkaaGreatDoorSort
import Derived.Test.YtgeedjlbajmdkaaGreatDoorMaps
import Derived.Test.YtgeedjlbajmdkaaGreatDoorRefCut
import Derived.Test.YtgeedjlbajmdkaaGreatDoorFolder4
set_option linter.unusedSimpArgs false
set_option linter.unusedVariables false
/- The reference: what a job is over records: each slice's text. -/
namespace Go.Proofs.YtgeedjlbajmdkaaGreatDoor
open Go.RowKit

theorem pairsJ_len (rs : List RuleV) (kind : Int) (line : ByteArray) (h : line.size ≤ 150) : (pairsJ rs kind line).length ≤ rs.length * 152 := by
  unfold pairsJ
  have h3 : (wordsB line).length ≤ 151 := by
    rw [wordsB_eq, List.length_map]
    have h4 := tl_len line
    have := words_len line.data.toList
    omega
  induction rs with
  | nil => simp
  | cons r rs ih =>
    rw [List.flatMap_cons, List.length_append, List.length_cons, Nat.succ_mul]
    have h1 := pairsR_len r kind line
    omega
theorem madeL_len2 (rs : List RuleV) (kind : Int) (hr : rs.length ≤ 4) : ∀ (lines : List ByteArray), (∀ l ∈ lines, l.size ≤ 150) → (madeL rs kind lines).length ≤ lines.length * 608
  | [], _ => by simp [madeL]
  | a :: l, h => by
    have h1 := madeL_len2 rs kind hr l fun x hx => h x (List.mem_cons_of_mem _ hx)
    have h2 := pairsJ_len rs kind a (h a List.mem_cons_self)
    have h3 := Nat.mul_le_mul_right 152 hr
    unfold madeL at h1 ⊢
    rw [List.flatMap_cons, List.length_append, List.length_cons, Nat.succ_mul]
    omega
/-- the pairs of slice k -/
def outL (rs : List RuleV) (fold : Int) (many : Nat) (lines : List ByteArray) (k : Nat) : List Pr := (grp fold (madeL rs fold lines)).filter (inSlice many k)
/-- the texts of a job's slices -/
def plainT (rs : List RuleV) (fold : Int) (many : Nat) (lines : List ByteArray) : List ByteArray := (List.range many).map fun k => tx (textP (outL rs fold many lines k))
theorem plainT_len (rs : List RuleV) (fold : Int) (many : Nat) (lines : List ByteArray) : (plainT rs fold many lines).length = many := by unfold plainT; rw [List.length_map, List.length_range]
theorem range_map_succ {α : Type} (f : Nat → α) (k : Nat) : (List.range (k + 1)).map f = (List.range k).map f ++ [f k] := by rw [List.range_succ, List.map_append]; rfl
theorem okP_made {rs : List RuleV} {fold : Int} {lines : List ByteArray} (hr : rs.length ≤ 4) (hok : ∀ r ∈ rs, RuleOk r) (hl : lines.length ≤ 100) (hs : ∀ l ∈ lines, l.size ≤ 150) : okP (madeL rs fold lines) := by
  refine ⟨by have := madeL_len2 rs fold hr lines hs; omega, fun p hp => ?_⟩
  have := madeL_ok hok fold (fun l h => by have := hs l h; omega) p hp
  omega
theorem okP_srt {l : List Pr} (h : okP l) : okP (srt l) := ⟨by rw [srt_len]; exact h.1, fun p hp => h.2 p ((srt_perm l).subset hp)⟩
theorem two_bd2 (k a b : Int) (ha : -9223372036854775808 ≤ a ∧ a ≤ 9223372036854775807) (hb : -9223372036854775808 ≤ b ∧ b ≤ 9223372036854775807) : -9223372036854775808 ≤ two k a b ∧ two k a b ≤ 9223372036854775807 := by
  unfold two
  split
  · omega
  · split
    · omega
    · unfold wrap64; omega
theorem grp_val {k : Int} : ∀ (l o : List Pr), (∀ x ∈ o, x.1.size ≤ 100000 ∧ -9223372036854775808 ≤ x.2 ∧ x.2 ≤ 9223372036854775807) → (∀ x ∈ l, x.1.size ≤ 100000 ∧ -9223372036854775808 ≤ x.2 ∧ x.2 ≤ 9223372036854775807) → ∀ x ∈ l.foldl (gstep k) o, x.1.size ≤ 100000 ∧ -9223372036854775808 ≤ x.2 ∧ x.2 ≤ 9223372036854775807
  | [], o, ho, _ => ho
  | a :: l, o, ho, hl => by
    refine grp_val l _ (fun x hx => ?_) fun x hx => hl x (List.mem_cons_of_mem _ hx)
    have ha := hl a List.mem_cons_self
    rcases list_end o with rfl | ⟨S, q, rfl⟩
    · rw [gstep_nil] at hx
      rw [List.mem_singleton.1 hx]; exact ha
    · by_cases he : q.1 = a.1
      · rw [gstep_same he] at hx
        rcases List.mem_append.1 hx with hx | hx
        · exact ho x (List.mem_append_left _ hx)
        · rw [List.mem_singleton.1 hx]
          have hq := ho q (by simp)
          exact ⟨hq.1, two_bd2 k _ _ hq.2 ha.2⟩
      · rw [gstep_other he] at hx
        rcases List.mem_append.1 hx with hx | hx
        · exact ho x hx
        · rw [List.mem_singleton.1 hx]; exact ha
theorem okP_grp {l : List Pr} (h : okP l) (k : Int) : okP (grp k l) := by
  refine ⟨Nat.le_trans (groups_length k _) (by rw [srt_len]; exact h.1), ?_⟩
  exact grp_val (srt l) [] (fun x hx => by cases hx) (okP_srt h).2
theorem okP_sub {l m : List Pr} (h : okP l) (hs : m.Sublist l) : okP m := ⟨Nat.le_trans hs.length_le h.1, fun p hp => h.2 p (hs.subset hp)⟩
end Go.Proofs.YtgeedjlbajmdkaaGreatDoor
/- TopStop: rows of a run's slices; a folder's run that another leaves alone; two mapper's runs. -/
namespace Go.Proofs.YtgeedjlbajmdkaaGreatDoor
open Go.RowKit

def rowOf (v : Value) (l : List Pr) : RowP := match v with
  | .slice a _ c => (a, c, l)
  | _ => (none, 0, l)
theorem rowOf_eq {a : Option Addr} {c : Nat} {l : List Pr} : rowOf (.slice a l.length c) l = (a, c, l) := rfl
theorem rowsL_zip : ∀ (vs : List Value) (ls : List (List Pr)), vs.length = ls.length → rowsL (List.zipWith rowOf vs ls) = ls
  | [], [], _ => rfl
  | [], _ :: _, h => by cases h
  | _ :: _, [], h => by cases h
  | v :: vs, l :: ls, h => by
    have ih := rowsL_zip vs ls (by simpa using h)
    unfold rowsL at ih ⊢
    rw [List.zipWith_cons_cons, List.map_cons, ih]
    congr 1
    unfold rowOf
    split <;> rfl
theorem Rws.rows {w : World} {base ob : Nat} {vs : List Value} {ls : List (List Pr)} (h : Rws w base ob vs ls) :
    (List.zipWith rowOf vs ls).length = ls.length ∧ rowsL (List.zipWith rowOf vs ls) = ls ∧ Sl 1 encRow w (some ⟨ob, 0, none⟩) (List.zipWith rowOf vs ls) ∧ ∀ r ∈ List.zipWith rowOf vs ls, Sl 2 encP w r.1 r.2.2 := by
  have hlen := h.len
  have hat : ∀ (i : Nat) r, (List.zipWith rowOf vs ls)[i]? = some r → ∃ a c l, r = (a, c, l) ∧ vs[i]? = some (.slice a l.length c) ∧ ls[i]? = some l ∧ Own 2 encP 101 w base (.slice a l.length c) l := by
    intro i r hi
    rw [List.getElem?_zipWith] at hi
    cases hv : vs[i]? with
    | none => rw [hv] at hi; cases hi
    | some v =>
      cases hl : ls[i]? with
      | none => rw [hv, hl] at hi; cases hi
      | some l =>
        rw [hv, hl] at hi
        have ho := h.own i v l hv hl
        obtain ⟨a, c, rfl⟩ := id ho.1
        have e := Option.some.inj hi
        exact ⟨a, c, l, by rw [← e]; exact rowOf_eq, rfl, rfl, ho⟩
  refine ⟨by simp [hlen], rowsL_zip vs ls hlen, ?_, fun r hr => ?_⟩
  · intro _
    refine ⟨ob, 0, rfl, h.bk.lt, fun i r j v hi hj => ?_⟩
    obtain ⟨a, c, l, rfl, h1, _, _⟩ := hat i r hi
    have hj0 : j = 0 := by
      cases j with
      | zero => rfl
      | succ j => simp [encRow] at hj
    subst hj0
    have e : v = .slice a l.length c := by simpa [encRow] using hj.symm
    subst e
    simpa using h.bk.get h1
  · obtain ⟨i, hi⟩ := List.mem_iff_getElem?.1 hr
    obtain ⟨a, c, l, rfl, _, _, ho⟩ := hat i r hi
    exact ho.sl encP_len
/-- a folder's run whose list lies in LS -/
def RunW (w : World) (B : Nat) (kind : Int) (L : List Pr) (c : Nat) (S LS : Nat → Prop) (v : Value) : Prop :=
  ∃ g n la lc va, v = .pointer (some ⟨g, 0, none⟩) ∧ RunAt w B g kind L n ((groups kind L).take c) la lc va ∧ Stand kind L n c ∧ c ≤ (groups kind L).length ∧ S g ∧ (∀ q, va.ownBlock = some q → S q) ∧ (∀ b o, la = some ⟨b, o, none⟩ → LS b) ∧ g < w.heap.size
theorem RunW.runV {w : World} {B : Nat} {kind : Int} {L : List Pr} {c : Nat} {S LS : Nat → Prop} {v : Value} (h : RunW w B kind L c S LS v) (hL : ∀ q, LS q → q < w.heap.size) : RunV w B kind L c S v := by
  obtain ⟨g, n, la, lc, va, e, h1, h2, h3, h4, h5, h6, _⟩ := h
  exact ⟨g, n, la, lc, va, e, h1, h2, h3, h4, h5, fun b o e => hL b (h6 b o e)⟩
theorem RunW.kept {w w' : World} {B : Nat} {kind : Int} {L : List Pr} {c : Nat} {S LS T : Nat → Prop} {v : Value} (h : RunW w B kind L c S LS v) (k : KeptBut T w w') (hs : ∀ q, S q → ¬ T q) (hl : ∀ q, LS q → ¬ T q) : RunW w' B kind L c S LS v := by
  obtain ⟨g, n, la, lc, va, e, h1, h2, h3, h4, h5, h6, h7⟩ := h
  exact ⟨g, n, la, lc, va, e, ⟨h1.bk.kept k (hs g h4), h1.lo, h1.sl.kept k fun b o e => hl b (h6 b o e), k.own h1.own fun q e => hs q (h5 q e), h1.apart, h1.at_le⟩, h2, h3, h4, h5, h6, Nat.lt_of_lt_of_le h7 k.size⟩
theorem RunW.later {w w' : World} {B : Nat} {kind : Int} {L : List Pr} {c : Nat} {S LS : Nat → Prop} {v : Value} (h : RunW w B kind L c S LS v) (hb : Below w.heap.size w w') : RunW w' B kind L c S LS v :=
  h.kept (KeptBut.of_below (S := fun _ => False) hb (Nat.le_refl _)) (fun _ _ h => h) fun _ _ h => h
theorem RunW.ptr {w : World} {B : Nat} {kind : Int} {L : List Pr} {c : Nat} {S LS : Nat → Prop} {v : Value} (h : RunW w B kind L c S LS v) : ∃ g, v = .pointer (some ⟨g, 0, none⟩) := by
  obtain ⟨g, n, la, lc, va, e, _⟩ := h
  exact ⟨g, e⟩
theorem RunV.bound {w : World} {B : Nat} {kind : Int} {L : List Pr} {c : Nat} {S : Nat → Prop} {v : Value} (h : RunV w B kind L c S v) : RunV w B kind L c (fun q => S q ∧ q < w.heap.size) v := by
  obtain ⟨g, n, la, lc, va, e, h1, h2, h3, h4, h5, h6⟩ := h
  exact ⟨g, n, la, lc, va, e, h1, h2, h3, ⟨h4, h1.bk.lt⟩, fun q e => ⟨h5 q e, (h1.own.lt q e).2⟩, h6⟩
theorem NewW_run (kind : Int) (ao : Option Addr) (cap : Nat) (rs : List RowP) (w : World) (hk : kindFault kind = 0) (hl : rs.length ≤ 100000) (htot : (rowsL rs).flatten.length ≤ 100000000) (hr : ∀ l ∈ rowsL rs, Rise l) (hs : Sl 1 encRow w ao rs) (hrow : ∀ r ∈ rs, Sl 2 encP w r.1 r.2.2) :
    Calls Tryz.prog 32 #[.int .i64 kind, .slice ao rs.length cap] w fun e w' => (∃ g, e = .returned (.tuple #[.pointer (some ⟨g, 0, none⟩), .nilIface]) ∧ RunW w' w.heap.size kind (srt (rowsL rs).flatten) 0 (fun q => w.heap.size ≤ q ∧ q < w'.heap.size) (fun q => w.heap.size ≤ q ∧ q < w'.heap.size) (.pointer (some ⟨g, 0, none⟩))) ∧ Below w.heap.size w w' := by
  refine (New_any kind ao cap rs w hk hl htot hr hs hrow).mono ?_
  rintro e w' ⟨⟨g, la, lc, rfl, h, hla⟩, hb⟩
  exact ⟨⟨g, rfl, g, 0, la, lc, _, rfl, by rw [List.take_zero]; exact h, Stand.zero, Nat.zero_le _, ⟨h.lo, h.bk.lt⟩, fun q e => by simp [Value.ownBlock] at e, hla, h.bk.lt⟩, hb⟩
theorem StepW_run {B : Nat} {kind : Int} {L : List Pr} {c : Nat} {S LS : Nat → Prop} {v : Value} (many : Int) (w : World) (hB : B ≤ w.heap.size) (h : RunW w B kind L c S LS v) (hL : L.length ≤ 1000000) (hmany : many ≤ 9223372036854775807) :
    Calls Tryz.prog 33 #[v, .int .i64 many] w fun e w' => ((∃ b, e = .returned (.bool b)) ∧ RunW w' B kind L (min (c + many.toNat) (groups kind L).length) (fun q => (S q ∨ w.heap.size ≤ q) ∧ q < w'.heap.size) LS v) ∧ KeptBut S w w' := by
  obtain ⟨g, n, la, lc, va, rfl, h1, h2, h3, h4, h5, h6, h7⟩ := h
  refine (Step_any many w hB h1 h2 hL hmany).mono ?_
  rintro e w' ⟨n', va', ⟨rfl, k1, k2, k3⟩, k4⟩
  obtain ⟨k5, k6⟩ := k2.cap
  have hk := k4.mono (T := S) fun q hq => hq.elim (fun e => e ▸ h4) (h5 q)
  exact ⟨⟨⟨_, rfl⟩, g, n', la, lc, va', rfl, by rw [← k6]; exact k1, k5, Nat.min_le_right _ _, ⟨.inl h4, Nat.lt_of_lt_of_le h7 k4.size⟩, fun q e => ⟨(k3 q e).imp (h5 q) id, (k1.own.lt q e).2⟩, h6, Nat.lt_of_lt_of_le h7 k4.size⟩, hk⟩
/-- two runs of the folder, one of them over, that leave each other alone -/
structure FS (W1 wq : World) (kind : Int) (L : List Pr) (Ba : Nat) (Sa LA : Nat → Prop) (va : Value) (Bb c : Nat) (Sb : Nat → Prop) (vb : Value) : Prop where
  ra : RunW wq Ba kind L (groups kind L).length Sa LA va
  rb : RunV wq Bb kind L c Sb vb
  lob : Bb ≤ wq.heap.size
  fa : ∀ q, Sa q ∨ LA q → W1.heap.size ≤ q ∧ q < wq.heap.size
  fb : ∀ q, Sb q → W1.heap.size ≤ q ∧ q < wq.heap.size
  ap : ∀ q, Sa q ∨ LA q → ¬ Sb q
  k : Below W1.heap.size W1 wq
section
variable {W1 wq w' : World} {kind : Int} {L : List Pr} {Ba Bb c : Nat} {Sa LA Sb : Nat → Prop} {va vb : Value}
theorem FS.later (h : FS W1 wq kind L Ba Sa LA va Bb c Sb vb) (hb : Below wq.heap.size wq w') : FS W1 w' kind L Ba Sa LA va Bb c Sb vb :=
  ⟨h.ra.later hb, h.rb.later hb, Nat.le_trans h.lob hb.size, fun q hq => ⟨(h.fa q hq).1, Nat.lt_of_lt_of_le (h.fa q hq).2 hb.size⟩, fun q hq => ⟨(h.fb q hq).1, Nat.lt_of_lt_of_le (h.fb q hq).2 hb.size⟩, h.ap, h.k.trans (hb.mono h.k.size)⟩
theorem FS.step {c' : Nat} {vb' : Value} (h : FS W1 wq kind L Ba Sa LA va Bb c Sb vb) (hk : KeptBut Sb wq w') (hr : RunV w' Bb kind L c' (fun q => Sb q ∨ wq.heap.size ≤ q) vb') :
    FS W1 w' kind L Ba Sa LA va Bb c' (fun q => (Sb q ∨ wq.heap.size ≤ q) ∧ q < w'.heap.size) vb' := by
  have hs := h.k.size
  refine ⟨h.ra.kept hk (fun q hq => h.ap q (.inl hq)) (fun q hq => h.ap q (.inr hq)), hr.bound, Nat.le_trans h.lob hk.size, fun q hq => ⟨(h.fa q hq).1, Nat.lt_of_lt_of_le (h.fa q hq).2 hk.size⟩, fun q hq => ⟨?_, hq.2⟩, fun q hq hb => ?_, h.k.trans (hk.below (fun q hq => (h.fb q hq).1) h.k.size)⟩
  · rcases hq.1 with h1 | h1
    · exact (h.fb q h1).1
    · omega
  · rcases hb.1 with h1 | h1
    · exact h.ap q hq h1
    · have := (h.fa q hq).2; omega
theorem FS.newB {Bb' c' : Nat} {Sb' : Nat → Prop} {vb' : Value} (h : FS W1 wq kind L Ba Sa LA va Bb c Sb vb) (hr : RunV wq Bb' kind L c' Sb' vb') (hB : Bb' ≤ wq.heap.size) (hS : ∀ q, Sb' q → W1.heap.size ≤ q ∧ q < wq.heap.size) (ha : ∀ q, Sa q ∨ LA q → ¬ Sb' q) :
    FS W1 wq kind L Ba Sa LA va Bb' c' Sb' vb' := ⟨h.ra, hr, hB, h.fa, hS, ha, h.k⟩
end
theorem cutP_rows (fold : Int) (many : Nat) (early : Bool) (L : List Pr) (hl : L.length ≤ 100000) : (cutP fold early many L).length = many ∧ ∀ l ∈ cutP fold early many L, l.length ≤ maxLen := by
  refine ⟨cutP_len fold early many L, fun l h => ?_⟩
  obtain ⟨n, hn⟩ := List.mem_iff_getElem?.1 h
  have hlt := (List.getElem?_eq_some_iff.1 hn).1
  rw [cutP_len] at hlt
  rw [cutP_get hlt] at hn
  have hf := List.length_filter_le (inSlice many n) L
  have he := Option.some.inj hn
  split at he
  · rw [← he]
    have := groups_length fold (srt (L.filter (inSlice many n)))
    rw [srt_len] at this
    unfold grp maxLen
    omega
  · rw [← he, srt_len]
    unfold maxLen
    omega
/-- slices, one behind the other -/
theorem cutP_flat (fold : Int) (early : Bool) {many : Nat} (hm : 1 ≤ many) (l : List Pr) : (cutP fold early many l).flatten.length ≤ l.length := by
  unfold cutP
  rw [List.length_flatten, List.map_map]
  refine Nat.le_trans (sum_le (g := fun n => ((srt l).filter (inSlice many n)).length) (fun n => ?_) many) ?_
  · simp only [Function.comp]
    split
    · exact groups_length _ _
    · exact Nat.le_refl _
  · rw [slices_count hm, srt_len]; exact Nat.le_refl _
theorem cutP_all (fold : Int) (early : Bool) (many : Nat) {l : List Pr} (h : ∀ p ∈ l, p.1.size ≤ 60 ∧ -9223372036854775808 ≤ p.2 ∧ p.2 ≤ 9223372036854775807) : ∀ p ∈ (cutP fold early many l).flatten, p.1.size ≤ 60 ∧ -9223372036854775808 ≤ p.2 ∧ p.2 ≤ 9223372036854775807 := by
  intro p hp
  obtain ⟨s, hs, hps⟩ := List.mem_flatten.1 hp
  unfold cutP at hs
  obtain ⟨n, _, rfl⟩ := List.mem_map.1 hs
  have hf : ∀ x ∈ (srt l).filter (inSlice many n), x.1.size ≤ 60 ∧ -9223372036854775808 ≤ x.2 ∧ x.2 ≤ 9223372036854775807 := fun x hx => h x (mem_srt.1 (List.mem_filter.1 hx).1)
  split at hps
  · exact groups_all fold (fun p => p.1.size ≤ 60 ∧ -9223372036854775808 ≤ p.2 ∧ p.2 ≤ 9223372036854775807) (fun q p hq hp _ => ⟨hq.1, two_bd fold q.2 p.2 hq.2 hp.2⟩) _ hf p hps
  · exact hf p hps
theorem groups_text (k : Int) {l : List Pr} (hl : l.length ≤ 60800) (h : ∀ p ∈ l, p.1.size ≤ 60 ∧ -9223372036854775808 ≤ p.2 ∧ p.2 ≤ 9223372036854775807) (c : Nat) : (textP ((groups k l).take c)).length ≤ 9000000 := by
  have h1 : ∀ p ∈ groups k l, p.1.size ≤ 60 ∧ -9223372036854775808 ≤ p.2 ∧ p.2 ≤ 9223372036854775807 :=
    groups_all k _ (fun q p hq hp _ => ⟨hq.1, two_bd k q.2 p.2 hq.2 hp.2⟩) l h
  have h2 := textP_small ((groups k l).take c) fun p hp => h1 p (List.mem_of_mem_take hp)
  have h3 := groups_length k l
  rw [List.length_take] at h2
  omega
/-- two runs of the mapper that leave each other alone -/
structure TS (ro : Option Addr) (rc : Nat) (rs : List RuleR) (fold slices : Int) (early : Bool) (lines : List ByteArray) (W1 wq : World) (Ba : Nat) (Sa : Nat → Prop) (va : Value) (Bb n : Nat) (Sb : Nat → Prop) (vb : Value) : Prop where
  ra : MRunV wq Ba ro rc rs fold slices early lines lines.length Sa va
  rb : MRunV wq Bb ro rc rs fold slices early lines n Sb vb
  loa : Ba ≤ wq.heap.size
  lob : Bb ≤ wq.heap.size
  base : W1.heap.size ≤ Ba ∧ W1.heap.size ≤ Bb
  fa : ∀ q, Sa q → W1.heap.size ≤ q ∧ q < wq.heap.size
  fb : ∀ q, Sb q → W1.heap.size ≤ q ∧ q < wq.heap.size
  ap : ∀ q, Sa q → ¬ Sb q
  k : Below W1.heap.size W1 wq
section
variable {ro : Option Addr} {rc : Nat} {rs : List RuleR} {fold slices : Int} {early : Bool} {lines : List ByteArray} {W1 wq w' : World} {Ba Bb n : Nat} {Sa Sb : Nat → Prop} {va vb : Value}
theorem TS.later (h : TS ro rc rs fold slices early lines W1 wq Ba Sa va Bb n Sb vb) (hb : Below wq.heap.size wq w') : TS ro rc rs fold slices early lines W1 w' Ba Sa va Bb n Sb vb :=
  ⟨h.ra.later hb, h.rb.later hb, Nat.le_trans h.loa hb.size, Nat.le_trans h.lob hb.size, h.base, fun q hq => ⟨(h.fa q hq).1, Nat.lt_of_lt_of_le (h.fa q hq).2 hb.size⟩, fun q hq => ⟨(h.fb q hq).1, Nat.lt_of_lt_of_le (h.fb q hq).2 hb.size⟩, h.ap, h.k.trans (hb.mono h.k.size)⟩
theorem TS.step {n' : Nat} {vb' : Value} (h : TS ro rc rs fold slices early lines W1 wq Ba Sa va Bb n Sb vb) (hk : KeptBut Sb wq w') (hr : MRunV w' Bb ro rc rs fold slices early lines n' (fun q => Sb q ∨ wq.heap.size ≤ q) vb') :
    TS ro rc rs fold slices early lines W1 w' Ba Sa va Bb n' (fun q => (Sb q ∨ wq.heap.size ≤ q) ∧ q < w'.heap.size) vb' := by
  have hs := h.k.size
  refine ⟨h.ra.kept hk h.ap, hr.bound, Nat.le_trans h.loa hk.size, Nat.le_trans h.lob hk.size, h.base, fun q hq => ⟨(h.fa q hq).1, Nat.lt_of_lt_of_le (h.fa q hq).2 hk.size⟩, fun q hq => ⟨?_, hq.2⟩, fun q hq hb => ?_, h.k.trans (hk.below (fun q hq => (h.fb q hq).1) h.k.size)⟩
  · rcases hq.1 with h1 | h1
    · exact (h.fb q h1).1
    · omega
  · rcases hb.1 with h1 | h1
    · exact h.ap q hq h1
    · have := (h.fa q hq).2; omega
theorem TS.newB {Bb' n' : Nat} {Sb' : Nat → Prop} {vb' : Value} (h : TS ro rc rs fold slices early lines W1 wq Ba Sa va Bb n Sb vb) (hr : MRunV wq Bb' ro rc rs fold slices early lines n' Sb' vb') (hB : Bb' ≤ wq.heap.size) (hB1 : W1.heap.size ≤ Bb') (hS : ∀ q, Sb' q → W1.heap.size ≤ q ∧ q < wq.heap.size) (ha : ∀ q, Sa q → ¬ Sb' q) :
    TS ro rc rs fold slices early lines W1 wq Ba Sa va Bb' n' Sb' vb' := ⟨h.ra, hr, h.loa, hB, ⟨h.base.1, hB1⟩, h.fa, hS, ha, h.k⟩
end
end Go.Proofs.YtgeedjlbajmdkaaGreatDoor
namespace Go.Proofs.YtgeedjlbajmdkaaGreatDoor
open Go.RowKit

set_option maxRecDepth 100000 in
set_option maxHeartbeats 4000000 in
theorem TopStop_walk (ro : Option Addr) (rc : Nat) (rs : List RuleR) (fold slices : Int) (early : Bool) (lo : Option Addr) (lc : Nat) (lines : List ByteArray) (so : Option Addr) (sc : Nat) (st : List Int) (w : World) (hg : GW w) (hj : JobIn w ro rc rs fold slices)
    (hll : lines.length ≤ maxLen) (hs : Sl 1 encS w lo lines) (hn : lo = none → lc = 0) (hstl : st.length ≤ maxLen) (hst : Sl 1 encInt w so st) (hsv : ∀ s ∈ st, -9223372036854775808 ≤ s ∧ s ≤ 9223372036854775807) :
    Calls Tryz.prog 5 #[.agg #[.slice ro rs.length rc, .int .i64 fold, .bool early, .int .i64 slices], .slice lo lines.length lc, .slice so st.length sc] w fun e w' => e = .returned (.bool true) ∧ Below w.heap.size w w' := by
  obtain ⟨W1, hW1⟩ : ∃ W, W = w.alloc (.cells #[.slice ro rs.length rc, .int .i64 fold, .bool early, .int .i64 slices] 24) := ⟨_, rfl⟩
  have hb1 : Below w.heap.size w W1 := by rw [hW1]; exact (Below.refl _ _).alloc (Nat.le_refl _) _
  have hbj : Bk W1 w.heap.size [.slice ro rs.length rc, .int .i64 fold, .bool early, .int .i64 slices] := by rw [hW1]; exact Bk.new rfl
  have HB1 := hide hb1
  have HBJ := hide hbj
  have HW1 := hide hW1
  have HGB := hide fun w' (hb : Below W1.heap.size W1 w') => (hg.later hb1 (Nat.le_refl _)).later hb (Nat.le_refl _)
  have HRS := hide fun w' (hb : Below W1.heap.size W1 w') => (⟨(hj.sl.later hb1 (Nat.le_refl _)).later hb (Nat.le_refl _), fun r hr => by obtain ⟨d, h⟩ := hj.at_ r hr; exact ⟨d, (h.later hb1 (Nat.le_refl _)).later hb (Nat.le_refl _)⟩⟩ : Sl 15 encRule w' ro rs ∧ ∀ r ∈ rs, ∃ d, RuleAt w' d r)
  have HLS := hide fun w' (hb : Below W1.heap.size W1 w') => (hs.later hb1 (Nat.le_refl _)).later hb (Nat.le_refl _)
  have HST := hide fun w' (hb : Below W1.heap.size W1 w') => (hst.later hb1 (Nat.le_refl _)).later hb (Nat.le_refl _)
  have HLJ := hide fun w' (hb : Below W1.heap.size W1 w') => LightJob_any ro rc rs fold slices early w' hj.len (HRS.out w' hb).1 (HRS.out w' hb).2
  have HJC := hide fun w' (hb : Below W1.heap.size W1 w') => jobCheck_any ro rc rs fold slices early w' hj.len (HRS.out w' hb).1 (HRS.out w' hb).2
  have HLT := hide fun w' (hb : Below W1.heap.size W1 w') => LightTexts_any lo lc lines 60 120 w' hll (HLS.out w' hb)
  have HSV := hide hsv
  have HN := hide hn
  have hlr := hj.len
  obtain ⟨lt, hlt⟩ : ∃ lt, lightTexts lines 60 120 = lt := ⟨_, rfl⟩
  have HLTX := hide hlt
  rw [hlt] at HLT
  obtain ⟨jf, hjf⟩ : ∃ jf, jobF (rs.map RuleR.v) fold slices = jf := ⟨_, rfl⟩
  rw [hjf] at HJC
  have HJE := hide hjf
  have HBF := hide fun w' (hb : Below W1.heap.size W1 w') => (hb1.trans (hb.mono hb1.size) : Below w.heap.size w w')
  unfold maxLen at hll hstl hlr
  unfold SomeB at HLJ
  clear hb1 hbj hW1 hg hj hs hst hsv hn hlt hjf
  go_enter Tryz.func5, Tryz.ntmps5
  go_upto_region 1 with (fail)
  rw [← HW1.out]
  clear HW1
  have hW : W1.alloc (.cells (encRule ruleLM).toArray 69) = W1.alloc (.cells #[.bool false, .int .i64 0, .int .i64 0, .int .i64 0, .string ⟨#[]⟩, .slice none 0 0, .string ⟨#[]⟩, .int .i64 2, .int .i64 0, .string ⟨#[]⟩, .slice none 0 0, .int .i64 9, .int .i64 0, .string ⟨#[]⟩, .slice none 0 0] 69) := rfl
  have hb2 : Below W1.heap.size W1 (W1.alloc (.cells (encRule ruleLM).toArray 69)) := (Below.refl _ _).alloc (Nat.le_refl _) _
  have hs2 : Sl 15 encRule (W1.alloc (.cells (encRule ruleLM).toArray 69)) (some ⟨W1.heap.size, 0, none⟩) [ruleLM] := Sl.lit encRule_len (heap_new W1 _) rfl
  have hz2 : (W1.alloc (.cells (encRule ruleLM).toArray 69)).heap.size = W1.heap.size + 1 := by simp
  have hb3 : Below (W1.alloc (.cells (encRule ruleLM).toArray 69)).heap.size (W1.alloc (.cells (encRule ruleLM).toArray 69)) ((W1.alloc (.cells (encRule ruleLM).toArray 69)).alloc (.cells #[.string ⟨#[97]⟩] 9)) := (Below.refl _ _).alloc (Nat.le_refl _) _
  have hs3 : Sl 1 encS ((W1.alloc (.cells (encRule ruleLM).toArray 69)).alloc (.cells #[.string ⟨#[97]⟩] 9)) (some ⟨W1.heap.size + 1, 0, none⟩) [⟨#[97]⟩] := by rw [← hz2]; exact Sl.lit encS_len (heap_new _ _) rfl
  have HWW := hide hW
  have hb23 := hb2.trans (hb3.mono hb2.size)
  have hs23 := hs2.later hb3 (Nat.le_refl _)
  rw [hW] at hb23 hs23 hs3
  obtain ⟨W3, hW3⟩ : ∃ W, W = ((W1.alloc (.cells #[.bool false, .int .i64 0, .int .i64 0, .int .i64 0, .string ⟨#[]⟩, .slice none 0 0, .string ⟨#[]⟩, .int .i64 2, .int .i64 0, .string ⟨#[]⟩, .slice none 0 0, .int .i64 9, .int .i64 0, .string ⟨#[]⟩, .slice none 0 0] 69)).alloc (.cells #[.string ⟨#[97]⟩] 9)) := ⟨_, rfl⟩
  rw [← hW3] at hb23 hs23 hs3
  have HB := hide hb23
  have HNO := hide (MNew_run (some ⟨W1.heap.size, 0, none⟩) 1 [ruleLM] 1 1 false 1 (some ⟨W1.heap.size + 1, 0, none⟩) 1 [⟨#[97]⟩] W3 ⟨hs23, fun r hr => by rw [List.mem_singleton.1 hr]; exact ruleLM_at _⟩ (by decide) hs3 (fun h => by cases h) (by decide +kernel) (by decide))
  have HW3 := hide hW3
  have HJL := hide fun w' (hb : Below W3.heap.size W3 w') => (⟨hs23.later hb (Nat.le_refl _), fun r hr => by rw [List.mem_singleton.1 hr]; exact ruleLM_at _⟩ : JobAt w' (some ⟨W1.heap.size, 0, none⟩) [ruleLM] 1)
  clear hW hb2 hs2 hz2 hb3 hs3 hb23 hs23 HWW hW3
  go_wp2_with fail
  rw [← HW3.out]
  refine HNO.out.mono ?_
  rintro e w2 ⟨⟨ov, rfl, hov⟩, b2⟩
  obtain ⟨g0, rfl⟩ := hov.ptr
  have HOV := hide hov
  have HLO := hide HB.out.size
  have HSO := hide (MStep_run 1 1 w2 b2.size (fun w' hb => (HGB.out w' (HB.out.trans ((b2.trans hb).mono HB.out.size))).gm) (fun w' hb => HJL.out w' (b2.trans hb)) (JobOk.of (by decide +kernel)) HOV.out (by decide) (by decide) (by decide))
  rw [show decide (min (0 + (1 : Int).toNat) ([⟨#[97]⟩] : List ByteArray).length = ([⟨#[97]⟩] : List ByteArray).length) = true by decide] at HSO
  have HB2 := hide (HB.out.trans (b2.mono HB.out.size))
  have HZ2 := hide b2.size
  clear HNO hov b2
  go_wp2_with fail
  refine HSO.out.mono ?_
  rintro e w3 ⟨⟨rfl, _⟩, k3⟩
  replace HB := hide (HB2.out.trans (k3.below (B := W1.heap.size) (fun q hq => Nat.le_trans HLO.out hq.1) HB2.out.size))
  have hbk2 := HBJ.out.later HB.out
  have j0 := hbk2.get (j := 0) rfl
  have j1 := hbk2.get (j := 1) rfl
  have j2 := hbk2.get (j := 2) rfl
  have j3 := hbk2.get (j := 3) rfl
  clear hbk2 HSO k3 HOV HB2 HJL HLO HZ2 HW3
  go_wp2_with fail
  refine (HLJ.out _ HB.out).mono ?_
  rintro e w4 ⟨⟨b, rfl⟩, b4⟩
  replace j0 := cell_later b4 j0
  replace j1 := cell_later b4 j1
  replace j2 := cell_later b4 j2
  replace j3 := cell_later b4 j3
  replace HB := hide (HB.out.trans (b4.mono HB.out.size))
  clear b4 HLJ
  cases b with
  | false =>
    clear HLT
    go_wp2
    go_ret
    exact ⟨rfl, HBF.out _ HB.out⟩
  | true =>
  go_wp2_with fail
  refine (HLT.out _ HB.out).mono ?_
  rintro e w5 ⟨rfl, rfl⟩
  clear HLT
  cases lt with
  | false =>
    go_wp2
    go_ret
    exact ⟨rfl, HBF.out _ HB.out⟩
  | true =>
  by_cases h20 : 20 < st.length
  · have g3 : decide ((20 : Int) < (st.length : Int)) = true := by simp; omega
    go_wp2
    go_ret
    exact ⟨rfl, HBF.out _ HB.out⟩
  have g3 : decide ((20 : Int) < (st.length : Int)) = false := by simp; omega
  go_wp2_with fail
  refine (HJC.out _ HB.out).mono ?_
  rintro e w6 ⟨rfl, b6⟩
  replace j0 := cell_later b6 j0
  replace j1 := cell_later b6 j1
  replace j2 := cell_later b6 j2
  replace j3 := cell_later b6 j3
  replace HB := hide (HB.out.trans (b6.mono HB.out.size))
  clear b6 HJC
  by_cases hj0 : jf = 0
  case neg =>
    rw [errV_pos hj0]
    go_wp2
    go_ret
    exact ⟨rfl, HBF.out _ HB.out⟩
  subst hj0
  rw [errV_zero]
  obtain ⟨d, hd⟩ := rules_deep (HRS.out W1 (Below.refl _ _)).2
  have HJA : Hid (∀ w', Below W1.heap.size W1 w' → JobAt w' ro rs d) := fun w' hb => ⟨(HRS.out w' hb).1, fun r hr => (hd r hr).later hb (Nat.le_refl _)⟩
  have HOK := hide (JobOk.of HJE.out)
  obtain ⟨many, hmany⟩ : ∃ many : Nat, slices = (many : Int) := ⟨slices.toNat, by have := HOK.out.slices; omega⟩
  subst hmany
  have hm4 : 1 ≤ many ∧ many ≤ 4 := by have := HOK.out.slices; omega
  have hrn4 : rs.length ≤ 4 := HOK.out.many.2
  have hl60 : lines.length ≤ 60 := by have := (lightTexts_of HLTX.out).1; omega
  have HLI : Hid (∀ l ∈ lines, l.size ≤ 150) := fun l hl => by have := (lightTexts_of HLTX.out).2 l hl; omega
  have HL5 : Hid (∀ l ∈ lines, l.size ≤ 500) := fun l hl => by have := HLI.out l hl; omega
  have HNW := hide fun w' (hb : Below W1.heap.size W1 w') => MNew_run ro rc rs fold many early d lo lc lines w' (HJA.out w' hb) (by unfold maxLen; omega) (HLS.out w' hb) HN.out HJE.out hl60
  have HBK := hide fun w' (hb : Below W1.heap.size W1 w') => HBJ.out.later hb
  have HGM := hide fun w' (hb : Below W1.heap.size W1 w') => (HGB.out w' hb).gm
  have HOKP := hide fun (n : Nat) => (okP_made (rs := rs.map RuleR.v) (fold := fold) (lines := lines.take n) (by rw [List.length_map]; exact hrn4) (by intro r hr; obtain ⟨x, hx, rfl⟩ := List.mem_map.1 hr; exact HOK.out.ok x hx) (by rw [List.length_take]; omega) (fun l hl => HLI.out l (List.mem_of_mem_take hl)))
  have HKEY := hide fun (n : Nat) => (madeL_ok (rs := rs.map RuleR.v) (by intro r hr; obtain ⟨x, hx, rfl⟩ := List.mem_map.1 hr; exact HOK.out.ok x hx) fold (lines := lines.take n) (fun l hl => HL5.out l (List.mem_of_mem_take hl)))
  have HTXP := hide fun (n : Nat) => (by
    have h1 := textP_small (madeL (rs.map RuleR.v) fold (lines.take n)) (fun p hp => by have := HKEY.out n p hp; exact ⟨by omega, this.2⟩)
    have h2 := madeL_len2 (rs.map RuleR.v) fold (by rw [List.length_map]; exact hrn4) (lines.take n) (fun l hl => HLI.out l (List.mem_of_mem_take hl))
    rw [List.length_take] at h2
    omega : (textP (madeL (rs.map RuleR.v) fold (lines.take n))).length ≤ 9000000)
  clear hd HLTX HRS g3 HN HLS
  go_wp2_with fail
  refine (HNW.out _ HB.out).mono ?_
  rintro e w7 ⟨⟨ra, rfl, hra⟩, b7⟩
  obtain ⟨ga, rfl⟩ := hra.ptr
  have HRA := hide hra
  have HS6 := hide HB.out.size
  replace j0 := cell_later b7 j0
  replace j1 := cell_later b7 j1
  replace j2 := cell_later b7 j2
  replace j3 := cell_later b7 j3
  replace HB := hide (HB.out.trans (b7.mono HB.out.size))
  have HS7 := hide b7.size
  clear b7 hra
  go_wp2_with fail
  refine (HNW.out _ HB.out).mono ?_
  rintro e w8 ⟨⟨rb, rfl, hrb⟩, b8⟩
  obtain ⟨gb, rfl⟩ := hrb.ptr
  have HRB := hide hrb
  have HRA8 := hide (HRA.out.later b8)
  have HS7b := hide HB.out.size
  replace HB := hide (HB.out.trans (b8.mono HB.out.size))
  have HS8 := hide b8.size
  have HSTA := hide (MStep_run d 60 w8 (Nat.le_trans HS7.out b8.size) (fun w' hb => HGM.out w' (HB.out.trans (hb.mono HS6.out))) (fun w' hb => HJA.out w' (HB.out.trans (hb.mono HS6.out))) HOK.out HRA8.out HL5.out (by omega) (by decide))
  rw [show min (0 + (60 : Int).toNat) lines.length = lines.length by omega] at HSTA
  clear b8 hrb HRA j0 j1 j2 j3
  go_wp2_with fail
  refine HSTA.out.mono ?_
  rintro e w9 ⟨⟨rfl, hra9⟩, k9⟩
  have HRB9 := hide (HRB.out.kept k9 fun q hq h => by have h1 := hq.1; have h2 := h.2; omega)
  have HTS : Hid (TS ro rc rs fold many early lines W1 w9 w6.heap.size (fun q => ((w6.heap.size ≤ q ∧ q < w7.heap.size) ∨ w8.heap.size ≤ q) ∧ q < w9.heap.size) (.pointer (some ⟨ga, 0, none⟩)) w7.heap.size 0 (fun q => w7.heap.size ≤ q ∧ q < w8.heap.size) (.pointer (some ⟨gb, 0, none⟩))) := by
    have h1 := HS6.out
    have h2 := HS7.out
    have h3 := HS8.out
    have h4 := k9.size
    refine ⟨hra9.bound, HRB9.out, by omega, by omega, ⟨h1, by omega⟩, fun q hq => ⟨by rcases hq.1 with h | h <;> omega, hq.2⟩, fun q hq => ⟨by omega, by omega⟩, fun q hq h => by rcases hq.1 with h5 | h5 <;> omega, HB.out.trans (k9.below (fun q hq => by have := hq.1; omega) HB.out.size)⟩
  generalize (fun q => ((w6.heap.size ≤ q ∧ q < w7.heap.size) ∨ w8.heap.size ≤ q) ∧ q < w9.heap.size) = SA at *
  generalize w6.heap.size = BA at *
  clear HSTA hra9 k9 HRB9 HRB HRA8 HS6 HS7 HS7b HS8 HB
  go_wp2
  go_loopw [11, 13] (fun bv iv wq => ∃ (BB n k : Nat) (SB : Nat → Prop), k ≤ st.length ∧ iv = .int .i64 k ∧ n ≤ lines.length ∧ Hid (TS ro rc rs fold many early lines W1 wq BA SA (.pointer (some ⟨ga, 0, none⟩)) BB n SB bv)) (fun _ iv _ => st.length - (intOf iv).toNat)
  case atStart => exact ⟨_, 0, 0, _, by omega, rfl, by omega, HTS⟩
  case round =>
    clear HTS
    obtain ⟨BB, n, k, SB, hk, rfl, hnl, HM⟩ := hrel
    obtain ⟨g, rfl⟩ := HM.out.rb.ptr
    by_cases hlt : k < st.length
    · obtain ⟨sb, soff, s, rfl, hsw, hsk, d0⟩ := (HST.out _ HM.out.k).int hlt
      have hs := HSV.out s (List.mem_of_getElem? hsk)
      have f1 : (0 : Int) ≤ (k : Int) ∧ (k : Int) < (st.length : Int) := by omega
      obtain ⟨f1, f2⟩ := f1
      have hbase := HM.out.base.2
      have HST1 := hide (MStep_run d s wr HM.out.lob (fun w' hb => HGM.out w' (HM.out.k.trans (hb.mono hbase))) (fun w' hb => HJA.out w' (HM.out.k.trans (hb.mono hbase))) HOK.out HM.out.rb HL5.out (by omega) hs.2)
      have hnl2 : min (n + s.toNat) lines.length ≤ lines.length := Nat.min_le_right _ _
      obtain ⟨m, hm⟩ : ∃ n', min (n + s.toNat) lines.length = n' := ⟨_, rfl⟩
      rw [hm] at HST1 hnl2
      clear hsw hbase hsk hm
      obtain ⟨eb, heb⟩ : ∃ eb, ((k : Int) % 2 == 0) = eb := ⟨_, rfl⟩
      go_wp2_with fail
      refine HST1.out.mono ?_
      rintro e w1 ⟨⟨rfl, hr1⟩, k1⟩
      have HM1 := hide (HM.out.step k1 hr1)
      generalize (fun q => (SB q ∨ wr.heap.size ≤ q) ∧ q < w1.heap.size) = SB1 at *
      clear HST1 hr1 k1 HM d0
      go_upto_if 96 with (fail)
      clear heb
      cases eb with
      | false =>
        go_wp2
        go_roundw
        case rel => exact ⟨BB, m, k + 1, SB1, by omega, by go_num, hnl2, HM1⟩
        case measure => (simp [intOf]; try omega)
      | true =>
        have HSV1 := hide (MSave_run w1 (HGB.out w1 HM1.out.k).toGT HM1.out.rb (HOKP.out m) (by omega))
        go_wp2_with fail
        refine HSV1.out.mono ?_
        rintro e w2 ⟨rfl, b2⟩
        have HM2 := hide (HM1.out.later b2)
        have hbk := HBK.out _ HM2.out.k
        have j0 := hbk.get (j := 0) rfl
        have j1 := hbk.get (j := 1) rfl
        have j2 := hbk.get (j := 2) rfl
        have j3 := hbk.get (j := 3) rfl
        clear hbk HSV1 b2 HM1
        go_wp2_with fail
        refine (HNW.out w2 HM2.out.k).mono ?_
        rintro e w5 ⟨⟨nv, rfl, hnv⟩, b5⟩
        obtain ⟨g5, rfl⟩ := hnv.ptr
        have HNV := hide hnv
        have HM5 := hide (HM2.out.later b5)
        have HS5 := hide b5.size
        have HLD := hide (MLoad_run w5 (HGB.out w5 HM5.out.k) b5.size hnv hnl2 (by omega) (HOKP.out m) (HTXP.out m))
        have HMN := hide (HM5.out.newB hnv b5.size HM2.out.k.size (fun q hq => ⟨Nat.le_trans HM2.out.k.size hq.1, hq.2⟩) (fun q hq h => by have h1 := (HM2.out.fa q hq).2; have h2 := h.1; omega))
        clear hnv b5 j0 j1 j2 j3 HM5 HNV
        go_wp2_with fail
        refine HLD.out.mono ?_
        rintro e w7 ⟨⟨rfl, hr7⟩, k7⟩
        have HM7 := hide (HMN.out.step k7 hr7)
        have HSV7 := hide (MSave_run w7 (HGB.out w7 HM7.out.k).toGT HM7.out.rb (HOKP.out m) (by omega))
        obtain ⟨ST, hST⟩ : ∃ ST, tx (saveP m (madeL (rs.map RuleR.v) fold (lines.take m))) = ST := ⟨_, rfl⟩
        rw [hST] at HSV7 ⊢
        have htt := beqq ST
        clear HLD hr7 k7 HMN HM2 hST
        go_wp2_with fail
        refine HSV7.out.mono ?_
        rintro e w8 ⟨rfl, b8⟩
        have HM8 := hide (HM7.out.later b8)
        clear HSV7 b8 HM7
        go_wp2
        go_roundw
        case rel => exact ⟨_, m, k + 1, _, by omega, by go_num, hnl2, HM8⟩
        case measure => (simp [intOf]; try omega)
    · have g4 : decide (k < st.length) = false := by simpa using hlt
      have g5 : decide ((k : Int) < (st.length : Int)) = false := by simp; omega
      have hbase := HM.out.base.2
      have HST1 := hide (MStep_run d 60 wr HM.out.lob (fun w' hb => HGM.out w' (HM.out.k.trans (hb.mono hbase))) (fun w' hb => HJA.out w' (HM.out.k.trans (hb.mono hbase))) HOK.out HM.out.rb HL5.out (by omega) (by decide))
      rw [show min (n + (60 : Int).toNat) lines.length = lines.length by omega] at HST1
      clear hbase
      go_wp2_with fail
      refine HST1.out.mono ?_
      rintro e w1 ⟨⟨rfl, hr1⟩, k1⟩
      have HM1 := hide (HM.out.step k1 hr1)
      generalize (fun q => (SB q ∨ wr.heap.size ≤ q) ∧ q < w1.heap.size) = SB1 at *
      clear HST1 hr1 k1 HM hk hnl g4 g5
      have hml0 : (madeL (rs.map RuleR.v) fold (lines.take lines.length)).length ≤ 60800 := by
        have h1 := madeL_len2 (rs.map RuleR.v) fold (by rw [List.length_map]; exact hrn4) (lines.take lines.length) (fun l hl => HLI.out l (List.mem_of_mem_take hl))
        rw [List.length_take] at h1
        omega
      have HCL := hide (cutP_rows fold many early (madeL (rs.map RuleR.v) fold (lines.take lines.length)) (by omega))
      have HKS : Hid (∀ p ∈ madeL (rs.map RuleR.v) fold (lines.take lines.length), p.1.size ≤ 60 ∧ -9223372036854775808 ≤ p.2 ∧ p.2 ≤ 9223372036854775807) := fun p hp => by have := HKEY.out lines.length p hp; exact ⟨by omega, this.2⟩
      have HFA := hide (cutP_all fold early many HKS.out)
      have HFN : Hid ((cutP fold early many (madeL (rs.map RuleR.v) fold (lines.take lines.length))).flatten.length ≤ 60800) := Nat.le_trans (cutP_flat fold early hm4.1 _) hml0
      have HRI : Hid (∀ l ∈ cutP fold early many (madeL (rs.map RuleR.v) fold (lines.take lines.length)), Rise l) := fun l hl => by
        obtain ⟨i, hi⟩ := List.mem_iff_getElem?.1 hl
        have h1 := (List.getElem?_eq_some_iff.1 hi).1
        rw [HCL.out.1] at h1
        exact cutP_rise h1 hi
      have HSA := hide (MSlices_run w1 HM1.out.ra HOK.out HL5.out (by omega))
      have HSB := hide fun w' (hb : Below w1.heap.size w1 w') => MSlices_run w' (HM1.out.rb.later hb) HOK.out HL5.out (by omega)
      have HSC := hide fun w' (hb : Below w1.heap.size w1 w') => MSlices_run w' (HM1.out.ra.later hb) HOK.out HL5.out (by omega)
      have HK1 := hide HM1.out.k
      generalize cutP fold early many (madeL (rs.map RuleR.v) fold (lines.take lines.length)) = CP at *
      clear HKS HKEY HM1 HNW HJA HOKP HTXP
      go_wp2_with fail
      refine HSA.out.mono ?_
      rintro e w2 ⟨o1, vs1, rfl, hx1, b2⟩
      have HX1 := hide hx1
      have HBB := hide b2
      clear HSA hx1 b2
      go_wp2_with fail
      refine (HSB.out w2 HBB.out).mono ?_
      rintro e w3 ⟨o2, vs2, rfl, hx2, b3⟩
      have HSS := hide (SameSlices_refl _ _ o1 o2 many many many vs1 vs2 CP w3 (HX1.out.later b3) hx2 HCL.out.1.symm (by omega) HCL.out.2)
      replace HBB := hide (HBB.out.trans (b3.mono HBB.out.size))
      clear HSB HX1 hx2 b3
      go_wp2_with fail
      refine HSS.out.mono ?_
      rintro e w4 ⟨rfl, b4⟩
      replace HBB := hide (HBB.out.trans (b4.mono HBB.out.size))
      clear HSS b4
      go_wp2_with fail
      refine (HSC.out w4 HBB.out).mono ?_
      rintro e w5 ⟨o3, vs3, rfl, hx3, b5⟩
      have hrw := hx3.rows
      generalize List.zipWith rowOf vs3 CP = R at hrw
      obtain ⟨r1, r2, r3, r4⟩ := hrw
      rw [HCL.out.1] at r1
      have HROW := hide (show (rowsL R).flatten.length ≤ 60800 ∧ (∀ l ∈ rowsL R, Rise l) ∧ (∀ p ∈ (rowsL R).flatten, p.1.size ≤ 60 ∧ -9223372036854775808 ≤ p.2 ∧ p.2 ≤ 9223372036854775807) from by rw [r2]; exact ⟨HFN.out, HRI.out, HFA.out⟩)
      have hkf : kindFault fold = 0 := by have := HOK.out.fold; unfold kindFault; rw [if_neg (by omega)]
      have HNF := hide fun w' (hb : Below w5.heap.size w5 w') => NewW_run fold (some ⟨o3, 0, none⟩) many R w' hkf (by omega) (by have := HROW.out.1; omega) HROW.out.2.1 (r3.later hb (Nat.le_refl _)) (fun r hr => (r4 r hr).later hb (Nat.le_refl _))
      rw [r1] at HNF
      have HLA : Hid (∀ p ∈ srt (rowsL R).flatten, p.1.size ≤ 60 ∧ -9223372036854775808 ≤ p.2 ∧ p.2 ≤ 9223372036854775807) := fun p hp => HROW.out.2.2 p (mem_srt.1 hp)
      have HLL : Hid ((srt (rowsL R).flatten).length ≤ 60800) := by show _ ≤ _; rw [srt_len]; exact HROW.out.1
      generalize srt (rowsL R).flatten = L at *
      have HOKL : Hid (okP L) := ⟨by have := HLL.out; omega, fun p hp => by have := HLA.out p hp; exact ⟨by omega, this.2⟩⟩
      have HGT := hide (groups_text fold HLL.out HLA.out)
      have hgl : (groups fold L).length ≤ 60800 := Nat.le_trans (groups_length _ _) HLL.out
      have HW5 := hide (HK1.out.trans ((HBB.out.trans (b5.mono HBB.out.size)).mono HK1.out.size))
      have hw5s := HW5.out.size
      have hbk := HBK.out _ HW5.out
      have j1 := hbk.get (j := 1) rfl
      have HJF := hide fun w' (hb : Below w5.heap.size w5 w') => (cell_later hb j1 : _)
      have HW5G := hide fun w' (hb : Below w5.heap.size w5 w') => HGB.out w' (HW5.out.trans (hb.mono HW5.out.size))
      have HBFW := hide fun w' (hb : Below w5.heap.size w5 w') => HBF.out w' (HW5.out.trans (hb.mono HW5.out.size))
      have HST5 := hide fun w' (hb : Below w5.heap.size w5 w') => HST.out w' (HW5.out.trans (hb.mono HW5.out.size))
      clear HSC hx3 b5 r1 r2 r3 r4 HROW hkf HFA HFN HRI HCL HBB HK1 hml0 hbk hw5s
      go_wp2_with fail
      refine (HNF.out w5 (Below.refl _ _)).mono ?_
      rintro e w6 ⟨⟨gf, rfl, hf⟩, b6⟩
      have HF := hide hf
      have HB6 := hide b6
      have j2 := HJF.out w6 b6
      clear hf b6 j1
      go_wp2_with fail
      refine (HNF.out w6 HB6.out).mono ?_
      rintro e w7 ⟨⟨gg, rfl, hgg⟩, b7⟩
      have HG7 := hide hgg
      have HF7 := hide (HF.out.later b7)
      have HB7 := hide (HB6.out.trans (b7.mono HB6.out.size))
      have HS67 := hide b7.size
      have HSTF := hide (StepW_run 1048576 w7 (Nat.le_trans HB6.out.size b7.size) HF7.out (by have := HLL.out; omega) (by decide))
      rw [show min (0 + (1048576 : Int).toNat) (groups fold L).length = (groups fold L).length by omega] at HSTF
      clear hgg b7 HF j2
      go_wp2_with fail
      refine HSTF.out.mono ?_
      rintro e w8 ⟨⟨⟨bb, rfl⟩, hf8⟩, k8⟩
      have HFS : Hid (FS w5 w8 fold L w5.heap.size (fun q => ((w5.heap.size ≤ q ∧ q < w6.heap.size) ∨ w7.heap.size ≤ q) ∧ q < w8.heap.size) (fun q => w5.heap.size ≤ q ∧ q < w6.heap.size) (.pointer (some ⟨gf, 0, none⟩)) w6.heap.size 0 (fun q => w6.heap.size ≤ q ∧ q < w7.heap.size) (.pointer (some ⟨gg, 0, none⟩))) := by
        have h1 := HB6.out.size
        have h2 := HS67.out
        have h4 := k8.size
        refine ⟨hf8, (HG7.out.kept k8 (fun q hq h => by omega) (fun q hq h => by omega)).runV (fun q hq => by omega), by omega, fun q hq => ?_, fun q hq => ⟨by omega, by omega⟩, fun q hq h => ?_, HB7.out.trans (k8.below (fun q hq => hq.1) HB7.out.size)⟩
        · rcases hq with ⟨h | h, h5⟩ | h <;> exact ⟨by omega, by omega⟩
        · rcases hq with ⟨h5 | h5, _⟩ | h5 <;> omega
      generalize (fun q => ((w5.heap.size ≤ q ∧ q < w6.heap.size) ∨ w7.heap.size ≤ q) ∧ q < w8.heap.size) = SF at *
      generalize (fun q => w5.heap.size ≤ q ∧ q < w6.heap.size) = LF at *
      clear HSTF hf8 k8 HG7 HF7 HB7 HS67 HB6
      go_wp2
      go_loopw [19, 20] (fun bv iv wq => ∃ (BB c k : Nat) (SB : Nat → Prop), k ≤ st.length ∧ iv = .int .i64 k ∧ c ≤ (groups fold L).length ∧ Hid (FS w5 wq fold L w5.heap.size SF LF (.pointer (some ⟨gf, 0, none⟩)) BB c SB bv)) (fun _ iv _ => st.length - (intOf iv).toNat)
      case atStart => exact ⟨_, 0, 0, _, by omega, rfl, by omega, HFS⟩
      case round =>
        clear HFS
        rename_i wr0 _
        obtain ⟨BB, c, k, SB, hk, rfl, hcl, HM⟩ := hrel
        obtain ⟨g, rfl⟩ := HM.out.rb.ptr
        by_cases hlt : k < st.length
        · obtain ⟨sb, soff, s, rfl, hsw, hsk, d0⟩ := (HST5.out _ HM.out.k).int hlt
          have hs := HSV.out s (List.mem_of_getElem? hsk)
          have f1 : (0 : Int) ≤ (k : Int) ∧ (k : Int) < (st.length : Int) := by omega
          obtain ⟨f1, f2⟩ := f1
          have HST1 := hide (Step_run s wr HM.out.lob HM.out.rb (by have := HLL.out; omega) hs.2)
          have hcl2 : min (c + s.toNat) (groups fold L).length ≤ (groups fold L).length := Nat.min_le_right _ _
          obtain ⟨m, hm⟩ : ∃ n', min (c + s.toNat) (groups fold L).length = n' := ⟨_, rfl⟩
          rw [hm] at HST1 hcl2
          clear hsw hsk hm
          go_wp2_with fail
          refine HST1.out.mono ?_
          rintro e w9' ⟨⟨rfl, hr1⟩, k1⟩
          have HM1 := hide (HM.out.step k1 hr1)
          generalize (fun q => (SB q ∨ wr.heap.size ≤ q) ∧ q < w9'.heap.size) = SB1 at *
          have j3 := HJF.out _ HM1.out.k
          clear HST1 hr1 k1 HM d0
          go_wp2_with fail
          refine (HNF.out w9' HM1.out.k).mono ?_
          rintro e w10 ⟨⟨gh, rfl, hh⟩, b10⟩
          have HH := hide hh
          have HM2 := hide (HM1.out.later b10)
          have HS10 := hide b10.size
          have HSV2 := hide (Save_run w10 (HW5G.out _ HM2.out.k) HM2.out.rb HOKL.out)
          clear hh b10 j3
          go_wp2_with fail
          refine HSV2.out.mono ?_
          rintro e w11 ⟨⟨n8, rfl, hn8, hst8⟩, b11⟩
          have HM3 := hide (HM2.out.later b11)
          have HH3 := hide ((HH.out.later b11).runV (fun q hq => Nat.lt_of_lt_of_le hq.2 b11.size))
          have HS11 := hide b11.size
          have HLD := hide (Load_run w11 (HW5G.out _ HM3.out.k) (Nat.le_trans HS10.out b11.size) HH3.out hst8 hn8 hcl2 HOKL.out (HGT.out m))
          have HMN := hide (HM3.out.newB HH3.out (Nat.le_trans HS10.out b11.size) (fun q hq => ⟨Nat.le_trans HM1.out.k.size hq.1, Nat.lt_of_lt_of_le hq.2 b11.size⟩) (fun q hq h => by have h1 := (HM1.out.fa q hq).2; have h2 := h.1; omega))
          clear HSV2 hst8 b11 HM3 HH HM2
          go_wp2_with fail
          refine HLD.out.mono ?_
          rintro e w12 ⟨⟨rfl, hr12⟩, k12⟩
          have HM4 := hide (HMN.out.step k12 hr12)
          clear HLD hr12 k12 HMN HM1 HH3 HS10 HS11
          go_wp2
          go_roundw
          case rel => exact ⟨_, m, k + 1, _, by omega, by go_num, hcl2, HM4⟩
          case measure => (simp [intOf]; try omega)
        · have g4 : decide (k < st.length) = false := by simpa using hlt
          have g5 : decide ((k : Int) < (st.length : Int)) = false := by simp; omega
          have HST1 := hide (Step_run 1048576 wr HM.out.lob HM.out.rb (by have := HLL.out; omega) (by decide))
          rw [show min (c + (1048576 : Int).toNat) (groups fold L).length = (groups fold L).length by omega] at HST1
          go_wp2_with fail
          refine HST1.out.mono ?_
          rintro e w9' ⟨⟨rfl, hr1⟩, k1⟩
          have HM1 := hide (HM.out.step k1 hr1)
          have HO1 := hide (Out_run w9' (HW5G.out _ HM1.out.k).toGT (HM1.out.ra.runV (fun q hq => (HM1.out.fa q (.inr hq)).2)) HOKL.out)
          clear HST1 hr1 k1 HM
          go_wp2_with fail
          refine HO1.out.mono ?_
          rintro e w10 ⟨rfl, b10⟩
          have HM2 := hide (HM1.out.later b10)
          have HO2 := hide (Out_run w10 (HW5G.out _ HM2.out.k).toGT HM2.out.rb HOKL.out)
          have htt := beqq (tx (textP ((groups fold L).take (groups fold L).length)))
          clear b10 HO1
          go_wp2_with fail
          refine HO2.out.mono ?_
          rintro e w11 ⟨rfl, b11⟩
          have HBW := hide (HBFW.out w11 (HM2.out.later b11).k)
          go_wp2
          go_ret
          exact ⟨ret_b (by first | rfl | simp), HBW.out⟩
end Go.Proofs.YtgeedjlbajmdkaaGreatDoor
