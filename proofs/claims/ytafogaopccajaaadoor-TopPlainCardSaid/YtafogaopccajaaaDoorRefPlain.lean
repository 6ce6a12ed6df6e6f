/- The reference: what a job is over records: each slice's text. -/
import Derived.Test.YtafogaopccajaaaDoorPair4
import Derived.Test.YtafogaopccajaaaDoorFolder2
import Derived.Test.YtafogaopccajaaaDoorMRun
import Derived.Test.YtafogaopccajaaaDoorExpr11
import Derived.Test.YtafogaopccajaaaDoorRefMade
import Derived.Test.YtafogaopccajaaaDoorOne
import Derived.Test.YtafogaopccajaaaDoorOrder2
import Derived.Test.YtafogaopccajaaaDoorRefFold
import Derived.Test.YtafogaopccajaaaDoorFolder3
set_option linter.unusedSimpArgs false
set_option linter.unusedVariables false
/- Small laws of pairs that several walks use. -/
namespace Go.Proofs.YtafogaopccajaaaDoor
open Go.RowKit

theorem textP_small : ∀ (l : List Pr), (∀ p ∈ l, p.1.size ≤ 60 ∧ -9223372036854775808 ≤ p.2 ∧ p.2 ≤ 9223372036854775807) → (textP l).length ≤ 103 * l.length
  | [], _ => Nat.le_refl _
  | p :: l, h => by
    have h1 := h p List.mem_cons_self
    have h3 := textP_small l fun x hx => h x (List.mem_cons_of_mem _ hx)
    have h4 : (Lib.itoa (p.1.size : Int)).length ≤ 20 := itoa_len (by omega) (by omega)
    have h5 : (Lib.itoa p.2).length ≤ 20 := itoa_len h1.2.1 h1.2.2
    rw [show textP (p :: l) = lineP p ++ textP l from rfl, List.length_append, List.length_cons]
    unfold lineP
    simp only [List.length_append, List.length_cons, List.length_nil, tl_len]
    omega
theorem light_of {l : List Pr} {m : Int} (h : lightPairs l m = true) : (l.length : Int) ≤ m ∧ ∀ p ∈ l, p.1.size ≤ 60 := by
  simp only [lightPairs, Bool.and_eq_true, decide_eq_true_eq, List.all_eq_true, shortKey] at h
  exact h
theorem rise_at {l : List Pr} (h : Rise l) {k : Nat} {a b : Pr} (ha : l[k]? = some a) (hb : l[k + 1]? = some b) : Op.bytesLess b.1.toList a.1.toList = false := by
  obtain ⟨h1, e1⟩ := List.getElem?_eq_some_iff.1 ha
  obtain ⟨h2, e2⟩ := List.getElem?_eq_some_iff.1 hb
  have := (List.pairwise_iff_getElem.1 h) k (k + 1) h1 h2 (by omega)
  rw [e1, e2] at this
  exact this
theorem rises_rise {l : List Pr} (h : rises l = true) : Rise l := by
  have hadj : ∀ (i : Nat) x y, l[i]? = some x → l[i + 1]? = some y → klt y x = false := by
    intro i x y hx hy
    unfold rises upTo at h
    have h2 := List.all_eq_true.1 h i (List.mem_range.2 (List.getElem?_eq_some_iff.1 hx).1)
    rw [hx, hy] at h2
    simpa [klt] using h2
  refine List.pairwise_iff_getElem.2 fun i j hi hj hij => ?_
  have key : ∀ d, ∀ (hj : i + 1 + d < l.length), klt l[i + 1 + d] l[i] = false := by
    intro d
    induction d with
    | zero => intro hj; exact hadj i _ _ (List.getElem?_eq_getElem hi) (List.getElem?_eq_getElem hj)
    | succ d ih =>
      intro hj
      exact kle_trans (ih (by omega)) (hadj (i + 1 + d) _ _ (List.getElem?_eq_getElem (by omega)) (List.getElem?_eq_getElem hj))
  have := key (j - (i + 1)) (by omega)
  simpa [show i + 1 + (j - (i + 1)) = j by omega] using this
theorem flat_len_le {ls : List (List Pr)} {n k : Nat} (h : ∀ l ∈ ls, l.length ≤ n) (hk : ls.length ≤ k) : ls.flatten.length ≤ k * n := by
  induction ls generalizing k with
  | nil => simp
  | cons a ls ih =>
    obtain ⟨k, rfl⟩ : ∃ m, k = m + 1 := ⟨k - 1, by simp at hk; omega⟩
    have h1 := ih (fun l hl => h l (List.mem_cons_of_mem _ hl)) (k := k) (by simpa using hk)
    have h2 := h a List.mem_cons_self
    rw [List.flatten_cons, List.length_append, Nat.succ_mul]
    omega
end Go.Proofs.YtafogaopccajaaaDoor
/- What a mapper makes: short keys, small numbers (plain). -/
namespace Go.Proofs.YtafogaopccajaaaDoor
open Go.RowKit

theorem intE_bd {line it : ByteArray} {ws : List ByteArray} {each : Bool} (hl : line.size ≤ 1000) (hi : it.size ≤ 1000) (hw : ∀ x ∈ ws, x.size ≤ 1000) (hws : ws.length ≤ 1000) : ∀ e : ExprV, shE e false each = true → e.nodes ≤ 1000 → -9223372036854775808 ≤ intE e line it ws ∧ intE e line it ws ≤ 9223372036854775807
  | .mk k n s a, h, hn => by
    obtain ⟨p1, p2, p3, p4, p5, p6⟩ := shE_parts h
    rw [intE]
    unfold intK
    split
    · rename_i h7
      subst h7
      unfold nOk at p2
      rw [if_neg (by omega), if_neg (by omega), if_pos rfl] at p2
      simp only [Bool.and_eq_true, decide_eq_true_eq] at p2
      omega
    · split
      · rename_i h8
        subst h8
        match a, p5 with
        | [x], _ =>
          have hx : shE x true each = true := by
            simp only [kidsOf, show (8 : Int) ≠ 5 by decide, if_false, or_true, if_true, shL, Bool.and_eq_true] at p6
            exact p6.1
          have h1 := strE_le hl hi hw x hx
          have h2 : x.nodes ≤ 1000 := by
            simp only [ExprV.nodes, ExprV.nodesL] at hn
            omega
          have h3 := Nat.mul_le_mul_left 1000 h2
          simp only [strL, List.getD_cons_zero]
          omega
      · split
        · omega
        · split
          · rw [IntKind.wrap_i64]
            omega
          · omega
theorem pairsR_ok {r : RuleV} (hok : RuleOk r) (kind : Int) (line : ByteArray) (hl : line.size ≤ 500) : ∀ p ∈ pairsR r kind line, p.1.size ≤ 20 ∧ -9223372036854775808 ≤ p.2 ∧ p.2 ≤ 9223372036854775807 := by
  intro p hp
  unfold pairsR at hp
  obtain ⟨it, hit, hm⟩ := List.mem_filterMap.1 hp
  have hwl := words_line hl
  have his : it.size ≤ 1000 := by
    unfold itsR at hit
    split at hit
    · exact hwl.2 it hit
    · rw [List.mem_singleton.1 hit]; decide
  unfold madeR at hm
  split at hm
  · obtain rfl := Option.some.inj hm
    unfold pairR
    refine ⟨?_, ?_⟩
    · show (cut20 _).size ≤ 20
      unfold cut20
      rw [ByteArray.size_extract]
      omega
    · have hv := intE_bd (line := line) (it := it) (ws := wordsB line) (each := r.each) (by omega) his hwl.2 (by omega) r.val hok.val.2.2 (by have := hok.val.1; omega)
      show -9223372036854775808 ≤ first kind _ ∧ first kind _ ≤ 9223372036854775807
      unfold first
      split
      · omega
      · exact hv
  · cases hm
theorem pairsJ_ok {rs : List RuleV} (hok : ∀ r ∈ rs, RuleOk r) (kind : Int) (line : ByteArray) (hl : line.size ≤ 500) : ∀ p ∈ pairsJ rs kind line, p.1.size ≤ 20 ∧ -9223372036854775808 ≤ p.2 ∧ p.2 ≤ 9223372036854775807 := by
  intro p hp
  unfold pairsJ at hp
  obtain ⟨r, hr, hp⟩ := List.mem_flatMap.1 hp
  exact pairsR_ok (hok r hr) kind line hl p hp
theorem madeL_ok {rs : List RuleV} (hok : ∀ r ∈ rs, RuleOk r) (kind : Int) {lines : List ByteArray} (hl : ∀ l ∈ lines, l.size ≤ 500) : ∀ p ∈ madeL rs kind lines, p.1.size ≤ 20 ∧ -9223372036854775808 ≤ p.2 ∧ p.2 ≤ 9223372036854775807 := by
  intro p hp
  unfold madeL at hp
  obtain ⟨x, hx, hp⟩ := List.mem_flatMap.1 hp
  exact pairsJ_ok hok kind x (hl x hx) p hp
end Go.Proofs.YtafogaopccajaaaDoor
namespace Go.Proofs.YtafogaopccajaaaDoor
open Go.RowKit

theorem pairsJ_len (rs : List RuleV) (kind : Int) (line : ByteArray) (h : line.size ≤ 150) : (pairsJ rs kind line).length ≤ rs.length * 152 := by
  unfold pairsJ
  have h3 : (wordsB line).length ≤ 151 := by
    rw [wordsB_eq, List.length_map]
    have h4 := tl_len line
    have := words_len line.data.toList
    omega
  induction rs with
  | nil => simp
  | cons r rs ih =>
    rw [List.flatMap_cons, List.length_append, List.length_cons, Nat.succ_mul]
    have h1 := pairsR_len r kind line
    omega
theorem madeL_len2 (rs : List RuleV) (kind : Int) (hr : rs.length ≤ 4) : ∀ (lines : List ByteArray), (∀ l ∈ lines, l.size ≤ 150) → (madeL rs kind lines).length ≤ lines.length * 608
  | [], _ => by simp [madeL]
  | a :: l, h => by
    have h1 := madeL_len2 rs kind hr l fun x hx => h x (List.mem_cons_of_mem _ hx)
    have h2 := pairsJ_len rs kind a (h a List.mem_cons_self)
    have h3 := Nat.mul_le_mul_right 152 hr
    unfold madeL at h1 ⊢
    rw [List.flatMap_cons, List.length_append, List.length_cons, Nat.succ_mul]
    omega
/-- the pairs of slice k -/
def outL (rs : List RuleV) (fold : Int) (many : Nat) (lines : List ByteArray) (k : Nat) : List Pr := (grp fold (madeL rs fold lines)).filter (inSlice many k)
/-- the texts of a job's slices -/
def plainT (rs : List RuleV) (fold : Int) (many : Nat) (lines : List ByteArray) : List ByteArray := (List.range many).map fun k => tx (textP (outL rs fold many lines k))
theorem plainT_len (rs : List RuleV) (fold : Int) (many : Nat) (lines : List ByteArray) : (plainT rs fold many lines).length = many := by unfold plainT; rw [List.length_map, List.length_range]
theorem range_map_succ {α : Type} (f : Nat → α) (k : Nat) : (List.range (k + 1)).map f = (List.range k).map f ++ [f k] := by rw [List.range_succ, List.map_append]; rfl
theorem okP_made {rs : List RuleV} {fold : Int} {lines : List ByteArray} (hr : rs.length ≤ 4) (hok : ∀ r ∈ rs, RuleOk r) (hl : lines.length ≤ 100) (hs : ∀ l ∈ lines, l.size ≤ 150) : okP (madeL rs fold lines) := by
  refine ⟨by have := madeL_len2 rs fold hr lines hs; omega, fun p hp => ?_⟩
  have := madeL_ok hok fold (fun l h => by have := hs l h; omega) p hp
  omega
theorem okP_srt {l : List Pr} (h : okP l) : okP (srt l) := ⟨by rw [srt_len]; exact h.1, fun p hp => h.2 p ((srt_perm l).subset hp)⟩
theorem two_bd2 (k a b : Int) (ha : -9223372036854775808 ≤ a ∧ a ≤ 9223372036854775807) (hb : -9223372036854775808 ≤ b ∧ b ≤ 9223372036854775807) : -9223372036854775808 ≤ two k a b ∧ two k a b ≤ 9223372036854775807 := by
  unfold two
  split
  · omega
  · split
    · omega
    · unfold wrap64; omega
theorem grp_val {k : Int} : ∀ (l o : List Pr), (∀ x ∈ o, x.1.size ≤ 100000 ∧ -9223372036854775808 ≤ x.2 ∧ x.2 ≤ 9223372036854775807) → (∀ x ∈ l, x.1.size ≤ 100000 ∧ -9223372036854775808 ≤ x.2 ∧ x.2 ≤ 9223372036854775807) → ∀ x ∈ l.foldl (gstep k) o, x.1.size ≤ 100000 ∧ -9223372036854775808 ≤ x.2 ∧ x.2 ≤ 9223372036854775807
  | [], o, ho, _ => ho
  | a :: l, o, ho, hl => by
    refine grp_val l _ (fun x hx => ?_) fun x hx => hl x (List.mem_cons_of_mem _ hx)
    have ha := hl a List.mem_cons_self
    rcases list_end o with rfl | ⟨S, q, rfl⟩
    · rw [gstep_nil] at hx
      rw [List.mem_singleton.1 hx]; exact ha
    · by_cases he : q.1 = a.1
      · rw [gstep_same he] at hx
        rcases List.mem_append.1 hx with hx | hx
        · exact ho x (List.mem_append_left _ hx)
        · rw [List.mem_singleton.1 hx]
          have hq := ho q (by simp)
          exact ⟨hq.1, two_bd2 k _ _ hq.2 ha.2⟩
      · rw [gstep_other he] at hx
        rcases List.mem_append.1 hx with hx | hx
        · exact ho x hx
        · rw [List.mem_singleton.1 hx]; exact ha
theorem okP_grp {l : List Pr} (h : okP l) (k : Int) : okP (grp k l) := by
  refine ⟨Nat.le_trans (groups_length k _) (by rw [srt_len]; exact h.1), ?_⟩
  exact grp_val (srt l) [] (fun x hx => by cases hx) (okP_srt h).2
theorem okP_sub {l m : List Pr} (h : okP l) (hs : m.Sublist l) : okP m := ⟨Nat.le_trans hs.length_le h.1, fun p hp => h.2 p (hs.subset hp)⟩
set_option maxRecDepth 100000 in
set_option maxHeartbeats 4000000 in
theorem RefPlain_any (ro : Option Addr) (rc : Nat) (rs : List RuleR) (fold : Int) (many : Nat) (early : Bool) (d : Nat) (lo : Option Addr) (lc : Nat) (lines : List ByteArray) (w : World) (hj : JobAt w ro rs d) (hok : JobOk rs fold many) (hll : lines.length ≤ 100) (hs : Sl 1 encS w lo lines) (hli : ∀ l ∈ lines, l.size ≤ 150) :
    Calls Tryd.prog 28 #[.agg #[.slice ro rs.length rc, .int .i64 fold, .bool early, .int .i64 many], .slice lo lines.length lc] w fun e w' => ∃ v, e = .returned v ∧ Own 1 encS 9 w' w.heap.size v (plainT (rs.map RuleR.v) fold many lines) ∧ Below w.heap.size w w' := by
  obtain ⟨i0, hi0, hz0, hz1, hz2⟩ := info_parts infoPair
  obtain ⟨i1, hi1, hy0, hy1, hy2⟩ := info_parts infoStrM
  obtain ⟨W1, hW1⟩ : ∃ W, W = w.alloc (.cells #[.slice ro rs.length rc, .int .i64 fold, .bool early, .int .i64 many] 24) := ⟨_, rfl⟩
  have hb1 : Below w.heap.size w W1 := by rw [hW1]; exact (Below.refl _ _).alloc (Nat.le_refl _) _
  have hbj : Bk W1 w.heap.size [.slice ro rs.length rc, .int .i64 fold, .bool early, .int .i64 many] := by rw [hW1]; exact Bk.new rfl
  have HJ := hide hj
  have HOK := hide hok
  have hrn := hok.many.2
  have hm4 : 1 ≤ many ∧ many ≤ 4 := by have := hok.slices; omega
  have HS := hide hs
  have HLI := hide hli
  have HB := hide hb1
  have HBJ := hide hbj
  have HW1 := hide hW1
  have HOP := hide (okP_made (rs := rs.map RuleR.v) (lines := lines) (fold := fold) (by rw [List.length_map]; exact hrn) (by intro r hr; obtain ⟨x, hx, rfl⟩ := List.mem_map.1 hr; exact hok.ok x hx) hll hli)
  clear hj hok hs hli hb1 hbj hW1
  go_enter Tryd.func28, Tryd.ntmps28
  go_upto_region 1 with (fail)
  rw [← HW1.out]
  clear HW1
  go_wp2
  go_loopw [5, 6] (fun v iv wr => ∃ (i : Nat), i ≤ lines.length ∧ iv = .int .i64 i ∧ Hid (Own 2 encP 54 wr W1.heap.size v (madeL (rs.map RuleR.v) fold (lines.take i))) ∧ Hid (Below W1.heap.size W1 wr)) (fun _ iv _ => lines.length - (intOf iv).toNat)
  case atStart => exact ⟨0, by omega, rfl, Own.nil, Below.refl _ _⟩
  case round =>
    obtain ⟨i, hi, rfl, HOW, HBE⟩ := hrel
    have HBW := hide (HB.out.trans (HBE.out.mono HB.out.size))
    have j0 := cell_later HBE.out (HBJ.out.get (j := 0) rfl)
    have j1 := cell_later HBE.out (HBJ.out.get (j := 1) rfl)
    have j2 := cell_later HBE.out (HBJ.out.get (j := 2) rfl)
    have j3 := cell_later HBE.out (HBJ.out.get (j := 3) rfl)
    by_cases hlt : i < lines.length
    · obtain ⟨b, off, line, rfl, hbw, hlk, d0⟩ := (HS.out.later HBW.out (Nat.le_refl _)).str hlt
      have HMK := hide (madeL_succ (rs.map RuleR.v) fold hlk)
      have hls := HLI.out line (List.mem_of_getElem? hlk)
      have hb1 : (madeL (rs.map RuleR.v) fold (lines.take i)).length ≤ 60800 := by
        have h1 := madeL_len2 (rs.map RuleR.v) fold (by rw [List.length_map]; exact hrn) (lines.take i) (fun l hl => HLI.out l (List.mem_of_mem_take hl))
        rw [List.length_take] at h1
        omega
      have hb2 : (pairsJ (rs.map RuleR.v) fold line).length ≤ 608 := by
        have h1 := pairsJ_len (rs.map RuleR.v) fold line hls
        rw [List.length_map] at h1
        omega
      have HLN : Hid ((madeL (rs.map RuleR.v) fold (lines.take i)).length + (pairsJ (rs.map RuleR.v) fold line).length ≤ 1000000000) := by show _ ≤ _; omega
      have HP := hide fun (w' : World) (hb : Below wr.heap.size wr w') => by
        have hbw := HBW.out.trans (hb.mono HBW.out.size)
        exact PairsMade_any ro rc rs fold many early line d w' (by omega) (by omega) (HJ.out.sl.later hbw (Nat.le_refl _)) (fun r hr => (HJ.out.at_ r hr).later hbw (Nat.le_refl _)) HOK.out.ok
      generalize madeL (rs.map RuleR.v) fold (lines.take i) = acc at *
      generalize pairsJ (rs.map RuleR.v) fold line = pl at *
      obtain ⟨ua, uc, hu5⟩ := id HOW.out.1
      subst hu5
      have f1 : (0 : Int) ≤ (i : Int) ∧ (i : Int) < (lines.length : Int) := by omega
      obtain ⟨f1, f2⟩ := f1
      clear hlk
      go_upto_region 5 with (fail)
      refine wp_region_noPanic ?_
      refine wp_region_heldE_drew (S := (fun w' => Below wr.heap.size wr w')) (E := [6]) (by kernel_rfl) ?_ (fun hHeld => ?_)
      · (first | exact (Below.refl _ _).drew | exact hHeld.trans (b1.mono hHeld.size) | exact hHeld)
      try dsimp only [List.size_toArray, List.length_cons, List.length_nil, Nat.reduceAdd]
      refine wpAnyHE_take (i := 0) (oi := { dst := some 19, op := Op.load 24 (Operand.tmp 2), type := 24, pos := "parts.go:710", after := #[], guard := none }) (v := ?_) [[0]] rfl (by kernel_rfl) (by kernel_rfl) (by kernel_rfl) (by kernel_rfl) (by kernel_rfl) (fun _ _ _ h => h) (Or.inl ⟨by rfl, ?_⟩) (by assumption) ?_
      rotate_left
      · (intro w hSw; (try dsimp only at hSw); (have t0 := cell_later hSw j0; have t1 := cell_later hSw j1; have t2 := cell_later hSw j2; have t3 := cell_later hSw j3; have t4 := cell_later hSw d0); go_simp; try with_reducible rfl)
      try simp only [Act.put, List.setIfInBounds_toArray, List.set_cons_zero, List.set_cons_succ]
      refine wpAnyHE_takeP (i := 1) (oi := { dst := some 20, op := Op.move (Operand.tmp 1), type := 40, pos := "parts.go:710", after := #[], guard := none }) (v := ?_) rfl (by kernel_rfl) (by kernel_rfl) (by kernel_rfl) (fun _ _ _ h => h) (Or.inl ⟨by rfl, ?_⟩) ?_
      rotate_left
      · (intro w _; go_simp; try with_reducible rfl)
      try simp only [Act.put, List.setIfInBounds_toArray, List.set_cons_zero, List.set_cons_succ]
      refine wpAnyHE_takeP (i := 2) (oi := { dst := some 21, op := Op.move (Operand.tmp 6), type := 3, pos := "parts.go:710", after := #[], guard := none }) (v := ?_) rfl (by kernel_rfl) (by kernel_rfl) (by kernel_rfl) (fun _ _ _ h => h) (Or.inl ⟨by rfl, ?_⟩) ?_
      rotate_left
      · (intro w _; go_simp; try with_reducible rfl)
      try simp only [Act.put, List.setIfInBounds_toArray, List.set_cons_zero, List.set_cons_succ]
      refine wpAnyHE_takeP (i := 3) (oi := { dst := some 22, op := Op.indexAddr 40 (Operand.tmp 20) (Operand.tmp 21), type := 0, pos := "parts.go:710", after := #[{ on := 1, ground := Ground.data }, { on := 2, ground := Ground.data }], guard := none }) (v := ?_) rfl (by kernel_rfl) (by kernel_rfl) (by kernel_rfl) (fun _ _ _ h => h) (Or.inl ⟨by rfl, ?_⟩) ?_
      rotate_left
      · (intro w _; go_simp; try with_reducible rfl)
      try simp only [Act.put, List.setIfInBounds_toArray, List.set_cons_zero, List.set_cons_succ]
      refine wpAnyHE_take (i := 4) (oi := { dst := some 23, op := Op.load 9 (Operand.tmp 22), type := 9, pos := "parts.go:710", after := #[{ on := 3, ground := Ground.data }], guard := none }) (v := ?_) [[4]] rfl (by kernel_rfl) (by kernel_rfl) (by kernel_rfl) (by kernel_rfl) (by kernel_rfl) (fun _ _ _ h => h) (Or.inl ⟨by rfl, ?_⟩) (by assumption) ?_
      rotate_left
      · (intro w hSw; (try dsimp only at hSw); (have t0 := cell_later hSw j0; have t1 := cell_later hSw j1; have t2 := cell_later hSw j2; have t3 := cell_later hSw j3; have t4 := cell_later hSw d0); go_simp; try with_reducible rfl)
      try simp only [Act.put, List.setIfInBounds_toArray, List.set_cons_zero, List.set_cons_succ]
      refine wpAnyHE_ready (rs := [5]) (by kernel_rfl) (by simp) ?_
      refine AllReadyE.cons (o := { dst := some 24, op := Op.call { callee := Callee.value (Operand.func 44), args := #[Operand.tmp 19, Operand.tmp 23], argTypes := #[24, 9] }, type := 30, pos := "parts.go:710", after := #[{ on := 0, ground := Ground.data }, { on := 4, ground := Ground.data }], guard := none }) rfl (fun KH hKH => ?_) AllReadyE.nil
      go_simp
      (go_at_call 44; refine (HP.out _ hHeld).mono ?_; rintro e w1 ⟨v1, rfl, o1, b1⟩; obtain ⟨pa, pc, rfl⟩ := id o1.1)
      try go_wp2_with fail
      refine hKH.out _ _ ?_ (fun hNew => ?_)
      · (first | exact (Below.refl _ _).drew | exact hHeld.trans (b1.mono hHeld.size) | exact hHeld)
      clear hKH KH hHeld
      have hHeld := hNew
      clear hNew
      try simp only [Act.put, List.setIfInBounds_toArray, List.set_cons_zero, List.set_cons_succ]
      refine wpAnyHE_ready (rs := [6]) (by kernel_rfl) (by simp) ?_
      refine AllReadyE.consE (o := { dst := some 7, op := Op.assign (Operand.tmp 24), type := 30, pos := "parts.go:710", after := #[{ on := 5, ground := Ground.data }, { on := 5, ground := Ground.chain }, { on := 0, ground := Ground.phase }, { on := 1, ground := Ground.phase }, { on := 2, ground := Ground.phase }, { on := 3, ground := Ground.phase }, { on := 4, ground := Ground.phase }, { on := 5, ground := Ground.phase }], guard := none }) rfl (by kernel_rfl) (fun KH hKH => ?_) AllReadyE.nil
      have HOA := hide (HOW.out.later hHeld)
      have HBA := hide (HBE.out.trans (hHeld.mono HBE.out.size))
      have HN := hide o1.cap0
      have HSL := hide (o1.sl encP_len)
      clear o1 b1 HP
      go_simp
      refine hKH.out _ _ ?_
      clear hKH KH
      try clear hHeld
      try simp only [Act.put, List.setIfInBounds_toArray, List.set_cons_zero, List.set_cons_succ]
      refine wpAnyHE_done (by kernel_rfl) ?_ _
      refine NoPanic.normal ?_
      go_wp2_with (at_builtin; refine wpList_append_any encP_len _ _ 30 i0 _ rfl rfl Tryd.underlying30 hi0 hz0 hz1 hz2 rfl (by decide) (by decide) HOA.out HBA.out HBA.out.size pl HLN.out rfl pa pc pl.length rfl rfl HN.out HSL.out (one_flat one_pair) ?_)
      intro v' w2 ho hb _ _
      have HO := hide ho
      have HB' := hide hb
      clear ho hb HOA HBA HN HSL
      go_wp2
      go_roundw
      case rel => exact ⟨i + 1, by omega, by go_num, by rw [HMK.out]; exact HO, HB'⟩
      case measure => (simp [intOf]; try omega)
    · obtain rfl : i = lines.length := by omega
      rw [List.take_length] at HOW
      obtain ⟨ua, uc, hu5⟩ := id HOW.out.1
      subst hu5
      have hL5 := HOP.out.1
      have HSL := hide (HOW.out.sl encP_len)
      have HGD : Hid (grp fold (madeL (rs.map RuleR.v) fold lines) = groups fold (srt (madeL (rs.map RuleR.v) fold lines))) := rfl
      have HOG := hide (okP_grp HOP.out fold)
      have HPD : Hid (∀ k, outL (rs.map RuleR.v) fold many lines k = (grp fold (madeL (rs.map RuleR.v) fold lines)).filter (inSlice many k)) := fun k => rfl
      have HPL : Hid (plainT (rs.map RuleR.v) fold many lines = (List.range many).map fun k => tx (textP (outL (rs.map RuleR.v) fold many lines k))) := rfl
      generalize outL (rs.map RuleR.v) fold many lines = OL at *
      obtain ⟨G, hG⟩ : ∃ G, grp fold (madeL (rs.map RuleR.v) fold lines) = G := ⟨_, rfl⟩
      rw [hG] at HGD HOG HPD
      have hsl5 : (srt (madeL (rs.map RuleR.v) fold lines)).length ≤ 100000 := by rw [srt_len]; exact hL5
      have HSO := hide fun (w' : World) (hb : Below wr.heap.size wr w') => RefSorted_any ua uc (madeL (rs.map RuleR.v) fold lines) w' (by omega) (HSL.out.later hb (Nat.le_refl _))
      clear hG HSL HOW
      generalize srt (madeL (rs.map RuleR.v) fold lines) = SL at *
      have hGl := HOG.out.1
      go_upto_region 7 with (fail)
      refine wp_region_noPanic ?_
      refine wp_region_heldE_drew (S := (fun w' => Below wr.heap.size wr w')) (E := [5]) (by kernel_rfl) ?_ (fun hHeld => ?_)
      · (first | exact (Below.refl _ _).drew | exact hHeld.trans (b2.mono hHeld.size) | exact hHeld.trans (b1.mono hHeld.size) | exact hHeld)
      try dsimp only [List.size_toArray, List.length_cons, List.length_nil, Nat.reduceAdd]
      refine wpAnyHE_takeP (i := 0) (oi := { dst := some 28, op := Op.fieldAddr 24 (Operand.tmp 2) 1, type := 0, pos := "parts.go:713", after := #[], guard := none }) (v := ?_) rfl (by kernel_rfl) (by kernel_rfl) (by kernel_rfl) (fun _ _ _ h => h) (Or.inl ⟨by rfl, ?_⟩) ?_
      rotate_left
      · (intro w _; go_simp; try with_reducible rfl)
      try simp only [Act.put, List.setIfInBounds_toArray, List.set_cons_zero, List.set_cons_succ]
      refine wpAnyHE_take (i := 1) (oi := { dst := some 29, op := Op.load 3 (Operand.tmp 28), type := 3, pos := "parts.go:713", after := #[{ on := 0, ground := Ground.data }], guard := none }) (v := ?_) [[1]] rfl (by kernel_rfl) (by kernel_rfl) (by kernel_rfl) (by kernel_rfl) (by kernel_rfl) (fun _ _ _ h => h) (Or.inl ⟨by rfl, ?_⟩) (by assumption) ?_
      rotate_left
      · (intro w hSw; (try dsimp only at hSw); (have t1 := cell_later hSw j1); go_simp; try with_reducible rfl)
      try simp only [Act.put, List.setIfInBounds_toArray, List.set_cons_zero, List.set_cons_succ]
      refine wpAnyHE_takeP (i := 2) (oi := { dst := some 30, op := Op.move (Operand.tmp 5), type := 30, pos := "parts.go:713", after := #[], guard := none }) (v := ?_) rfl (by kernel_rfl) (by kernel_rfl) (by kernel_rfl) (fun _ _ _ h => h) (Or.inl ⟨by rfl, ?_⟩) ?_
      rotate_left
      · (intro w _; go_simp; try with_reducible rfl)
      try simp only [Act.put, List.setIfInBounds_toArray, List.set_cons_zero, List.set_cons_succ]
      refine wpAnyHE_ready (rs := [3]) (by kernel_rfl) (by simp) ?_
      refine AllReadyE.cons (o := { dst := some 31, op := Op.call { callee := Callee.value (Operand.func 46), args := #[Operand.tmp 30], argTypes := #[30] }, type := 30, pos := "parts.go:713", after := #[{ on := 2, ground := Ground.data }], guard := none }) rfl (fun KH hKH => ?_) AllReadyE.nil
      go_simp
      (go_at_call 46; refine (HSO.out _ hHeld).mono ?_; rintro e w1 ⟨v1, rfl, o1, b1⟩; obtain ⟨sa, sc, rfl⟩ := id o1.1)
      try go_wp2_with fail
      refine hKH.out _ _ ?_ (fun hNew => ?_)
      · (first | exact (Below.refl _ _).drew | exact hHeld.trans (b2.mono hHeld.size) | exact hHeld.trans (b1.mono hHeld.size) | exact hHeld)
      clear hKH KH hHeld
      have hHeld := hNew
      clear hNew
      try simp only [Act.put, List.setIfInBounds_toArray, List.set_cons_zero, List.set_cons_succ]
      refine wpAnyHE_ready (rs := [4]) (by kernel_rfl) (by simp) ?_
      refine AllReadyE.cons (o := { dst := some 32, op := Op.call { callee := Callee.value (Operand.func 45), args := #[Operand.tmp 29, Operand.tmp 31], argTypes := #[3, 30] }, type := 30, pos := "parts.go:713", after := #[{ on := 1, ground := Ground.data }, { on := 3, ground := Ground.data }, { on := 3, ground := Ground.chain }], guard := none }) rfl (fun KH hKH => ?_) AllReadyE.nil
      go_simp
      (go_at_call 45; refine (Grouped_any fold sa sc SL _ (by omega) (o1.sl encP_len)).mono ?_; rintro e w2 ⟨v2, rfl, o2, b2⟩; rw [← HGD.out] at o2; obtain ⟨ga, gc, hv2⟩ := id o2.1; subst hv2)
      try go_wp2_with fail
      refine hKH.out _ _ ?_ (fun hNew => ?_)
      · (first | exact (Below.refl _ _).drew | exact hHeld.trans (b2.mono hHeld.size) | exact hHeld.trans (b1.mono hHeld.size) | exact hHeld)
      clear hKH KH hHeld
      have hHeld := hNew
      clear hNew
      try simp only [Act.put, List.setIfInBounds_toArray, List.set_cons_zero, List.set_cons_succ]
      refine wpAnyHE_ready (rs := [5]) (by kernel_rfl) (by simp) ?_
      refine AllReadyE.consE (o := { dst := some 8, op := Op.assign (Operand.tmp 32), type := 30, pos := "parts.go:713", after := #[{ on := 4, ground := Ground.data }, { on := 4, ground := Ground.chain }, { on := 0, ground := Ground.phase }, { on := 1, ground := Ground.phase }, { on := 2, ground := Ground.phase }, { on := 3, ground := Ground.phase }, { on := 4, ground := Ground.phase }], guard := none }) rfl (by kernel_rfl) (fun KH hKH => ?_) AllReadyE.nil
      have HBA := hide (HBE.out.trans (hHeld.mono HBE.out.size))
      have HSG := hide (o2.sl encP_len)
      clear o1 b1 o2 b2 HSO
      go_simp
      refine hKH.out _ _ ?_
      clear hKH KH
      try clear hHeld
      try simp only [Act.put, List.setIfInBounds_toArray, List.set_cons_zero, List.set_cons_succ]
      refine wpAnyHE_done (by kernel_rfl) ?_ _
      refine NoPanic.normal ?_
      clear hsl5 hL5 HGD j0 j1 j2 j3
      have hGs := hGl
      go_wp2
      rename_i wr0
      go_loopw [9, 10] (fun v kv wr => ∃ (k : Nat), k ≤ many ∧ kv = .int .i64 k ∧ Hid (Own 1 encS 9 wr w2.heap.size v ((List.range k).map fun k => tx (textP (OL k)))) ∧ Hid (Below w2.heap.size w2 wr)) (fun _ kv _ => many - (intOf kv).toNat)
      case atStart => exact ⟨0, by omega, rfl, Own.nil, Below.refl _ _⟩
      case round =>
        obtain ⟨k, hk, rfl, HOS, HBS⟩ := hrel
        have HBX := hide (HBA.out.trans (HBS.out.mono HBA.out.size))
        have q3 := cell_later HBX.out (HBJ.out.get (j := 3) rfl)
        by_cases hlt : k < many
        · have g3 : decide ((k : Int) < (many : Int)) = true := decide_eq_true (by omega)
          have HQ3 := hide q3
          have HSG2 := hide (HSG.out.later HBS.out (Nat.le_refl _))
          go_wp2
          rename_i wr1
          go_loopw [11, 12] (fun v mv wq => ∃ (m : Nat), m ≤ G.length ∧ mv = .int .i64 m ∧ Hid (Own 2 encP 54 wq wr.heap.size v ((G.take m).filter (inSlice many k))) ∧ Hid (Below wr.heap.size wr wq)) (fun _ mv _ => G.length - (intOf mv).toNat)
          case atStart => exact ⟨0, by omega, rfl, Own.nil, Below.refl _ _⟩
          case round =>
            rename_i wo
            obtain ⟨m, hm, rfl, HOM, HBM⟩ := hrel
            have t3 := cell_later HBM.out HQ3.out
            by_cases hltm : m < G.length
            · obtain ⟨b, off, x, y, rfl, hbw, hlk, d0, d1⟩ := (HSG2.out.later HBM.out (Nat.le_refl _)).pair hltm
              have hx : x.size ≤ maxLen := by have := (HOG.out.2 _ (List.mem_of_getElem? hlk)).1; unfold maxLen; dsimp only at this; omega
              have HSI := hide fun w' => SliceOf_any x (many : Int) w' hx (by omega)
              have HTK : Hid ((G.take (m + 1)).filter (inSlice many k) = (G.take m).filter (inSlice many k) ++ (if inSlice many k (x, y) = true then [(x, y)] else [])) := by
                obtain ⟨hl1, hx1⟩ := List.getElem?_eq_some_iff.1 hlk
                show _ = _
                rw [List.take_succ_eq_append_getElem hl1, hx1, List.filter_append]
                congr 1
                by_cases h : inSlice many k (x, y) = true
                · simp [h]
                · simp [h]
              have hfl : ((G.take m).filter (inSlice many k)).length ≤ 100000 := by
                have h1 := List.length_filter_le (inSlice many k) (G.take m)
                rw [List.length_take] at h1
                omega
              generalize (G.take m).filter (inSlice many k) = F at *
              obtain ⟨ib, hib⟩ : ∃ ib, inSlice many k (x, y) = ib := ⟨_, rfl⟩
              have hsb : (sliceB x many == (k : Int)) = ib := by rw [← hib]; unfold inSlice; rfl
              rw [hib] at HTK
              have f1 : (0 : Int) ≤ (m : Int) ∧ (m : Int) < (G.length : Int) := by omega
              obtain ⟨f1, f2⟩ := f1
              clear hlk hib
              generalize sliceB x many = sb at *
              go_upto_region 16 with (fail)
              go_quiet ((go_at_call 47; exact Calls.quiet_of_same ((HSI.out _).mono fun e w'' h => ⟨h.1, h.2.symm⟩)))
              have hbd : Below wr.heap.size wr (wr.drewN nq) := below_drewN (Below.refl _ _) nq
              have HOM2 := hide (HOM.out.later hbd)
              have HBM2 := hide (HBM.out.trans (hbd.mono HBM.out.size))
              replace d0 := cell_later hbd d0
              replace d1 := cell_later hbd d1
              clear HOM HBM t3 hbd HSI
              generalize wr.drewN nq = W at *
              cases ib with
              | false =>
                have HOM3 := hide HOM2.out
                go_wp2
                go_roundw
                case rel => exact ⟨m + 1, by omega, by go_num, by rw [HTK.out]; simpa using HOM2, HBM2⟩
                case measure => (simp [intOf]; try omega)
              | true =>
                have HOA := hide (HOM2.out.alloc (.cells #[.string x, .int .i64 y] 54))
                obtain ⟨ua2, uc2, hu2⟩ := id HOA.out.1
                subst hu2
                have HBA2 := hide (HBM2.out.alloc HBM2.out.size (.cells #[.string x, .int .i64 y] 54))
                have HFL : Hid (F.length + 1 ≤ 1000000000) := by show _ ≤ _; omega
                go_wp2_with (at_builtin; refine wpList_append_one encP_len _ _ 30 i0 _ rfl rfl Tryd.underlying30 hi0 hz0 hz1 hz2 rfl (by decide) (by decide) HOA.out HBA2.out HBA2.out.size HFL.out rfl (x, y) ⟨W.heap.size, 0, none⟩ 1 rfl (news_at rfl rfl) (one_pair _) ?_)
                intro v' w3 ho hb _ _
                have HO := hide ho
                have HB' := hide hb
                clear ho hb HOA HBA2 HOM2 HBM2
                go_wp2
                go_roundw
                case rel => exact ⟨m + 1, by omega, by go_num, by rw [HTK.out]; exact HO, HB'⟩
                case measure => (simp [intOf]; try omega)
            · obtain rfl : m = G.length := by omega
              rw [List.take_length, ← HPD.out k] at HOM
              obtain ⟨ua2, uc2, hu2⟩ := id HOM.out.1
              subst hu2
              have HPT := hide (PairsText_any ua2 uc2 (OL k) wr (by rw [HPD.out k]; exact okP_sub HOG.out List.filter_sublist) (HOM.out.sl encP_len))
              have HOS2 := hide (HOS.out.later HBM.out)
              have HBS2 := hide (HBS.out.trans (HBM.out.mono HBS.out.size))
              have HRS := hide (range_map_succ (fun k => tx (textP (OL k))) k)
              have hrl : ((List.range k).map fun k => tx (textP (OL k))).length = k := by simp
              generalize (List.range k).map (fun k => tx (textP (OL k))) = ts at *
              generalize tx (textP (OL k)) = tk at *
              clear HOM t3
              go_wp2_with fail
              refine HPT.out.mono ?_
              rintro e w4 ⟨rfl, b4⟩
              have HOA := hide ((HOS2.out.later b4).alloc (.cells #[.string tk] 9))
              obtain ⟨xa, xc, hx9⟩ := id HOA.out.1
              have hxl : ts.length + 1 ≤ 1000000000 := by omega
              have HXL := hide hxl
              subst hx9
              have hb5 := HBS2.out.trans (b4.mono HBS2.out.size)
              have HBA2 := hide (hb5.alloc hb5.size (.cells #[.string tk] 9))
              clear b4 hb5 HPT HOS2 HBS2 hrl hxl
              go_wp2_with (at_builtin; refine wpList_append_one encS_len _ _ 40 i1 _ rfl rfl Tryd.underlying40 hi1 hy0 hy1 hy2 rfl (by decide) (by decide) HOA.out HBA2.out HBA2.out.size HXL.out rfl tk ⟨w4.heap.size, 0, none⟩ 1 rfl (news_at rfl rfl) (one_str _) ?_)
              intro v' w5 ho hb _ _
              have HO := hide ho
              have HB' := hide hb
              clear ho hb HOA HBA2
              go_wp2
              go_roundw
              case rel => exact ⟨k + 1, by omega, by go_num, by rw [HRS.out]; exact HO, HB'⟩
              case measure => (simp [intOf]; try omega)
        · obtain rfl : k = many := by omega
          go_wp2
          go_ret
          exact ⟨_, rfl, by rw [HPL.out]; exact HOS.out.base_le (Nat.le_trans HB.out.size HBA.out.size), HB.out.trans (HBX.out.mono HB.out.size)⟩
end Go.Proofs.YtafogaopccajaaaDoor
/- folder: a run as a value: New, Step, Out. -/
namespace Go.Proofs.YtafogaopccajaaaDoor
open Go.RowKit

theorem Stand.cap {kind : Int} {L : List Pr} {n d : Nat} (h : Stand kind L n d) : Stand kind L n (min d (groups kind L).length) ∧ (groups kind L).take d = (groups kind L).take (min d (groups kind L).length) := by
  have e : (groups kind L).take d = (groups kind L).take (min d (groups kind L).length) := by
    rcases Nat.le_total d (groups kind L).length with h1 | h1
    · rw [Nat.min_eq_left h1]
    · rw [Nat.min_eq_right h1, List.take_of_length_le h1, List.take_length]
  exact ⟨⟨by rw [h.out, e], h.brk, h.over.trans ⟨fun _ => by omega, fun _ => by omega⟩⟩, e⟩
/-- a run as a value: c keys of it are out; it lies in blocks of S -/
def RunV (w : World) (B : Nat) (kind : Int) (L : List Pr) (c : Nat) (S : Nat → Prop) (v : Value) : Prop :=
  ∃ g n la lc va, v = .pointer (some ⟨g, 0, none⟩) ∧ RunAt w B g kind L n ((groups kind L).take c) la lc va ∧ Stand kind L n c ∧ c ≤ (groups kind L).length ∧ S g ∧ (∀ q, va.ownBlock = some q → S q) ∧ ∀ b o, la = some ⟨b, o, none⟩ → b < w.heap.size
theorem RunV.later {w w' : World} {B : Nat} {kind : Int} {L : List Pr} {c : Nat} {S : Nat → Prop} {v : Value} (h : RunV w B kind L c S v) (hb : Below w.heap.size w w') : RunV w' B kind L c S v := by
  obtain ⟨g, n, la, lc, va, e, h1, h2, h3, h4, h5, h6⟩ := h
  exact ⟨g, n, la, lc, va, e, h1.later hb, h2, h3, h4, h5, fun b o e => Nat.lt_of_lt_of_le (h6 b o e) hb.size⟩
theorem RunV.ptr {w : World} {B : Nat} {kind : Int} {L : List Pr} {c : Nat} {S : Nat → Prop} {v : Value} (h : RunV w B kind L c S v) : ∃ g, v = .pointer (some ⟨g, 0, none⟩) := by
  obtain ⟨g, n, la, lc, va, e, _⟩ := h
  exact ⟨g, e⟩
theorem run_okP {L : List Pr} (h : okP L) (kind : Int) (c : Nat) : okP ((groups kind L).take c) := (h.groups kind).sub (List.take_sublist _ _)
/-- New, as a value -/
theorem New_run (kind : Int) (ao : Option Addr) (cap : Nat) (rs : List RowP) (w : World) (hk : kindFault kind = 0) (hl : rs.length ≤ 100000) (htot : (rowsL rs).flatten.length ≤ 100000000) (hr : ∀ l ∈ rowsL rs, Rise l) (hs : Sl 1 encRow w ao rs) (hrow : ∀ r ∈ rs, Sl 2 encP w r.1 r.2.2) :
    Calls Tryd.prog 25 #[.int .i64 kind, .slice ao rs.length cap] w fun e w' => (∃ g, e = .returned (.tuple #[.pointer (some ⟨g, 0, none⟩), .nilIface]) ∧ RunV w' w.heap.size kind (srt (rowsL rs).flatten) 0 (fun q => w.heap.size ≤ q ∧ q < w'.heap.size) (.pointer (some ⟨g, 0, none⟩))) ∧ Below w.heap.size w w' := by
  refine (New_any kind ao cap rs w hk hl htot hr hs hrow).mono ?_
  rintro e w' ⟨⟨g, la, lc, rfl, h, hla⟩, hb⟩
  refine ⟨⟨g, rfl, g, 0, la, lc, _, rfl, by rw [List.take_zero]; exact h, Stand.zero, Nat.zero_le _, ⟨h.lo, h.bk.lt⟩, fun q e => by simp [Value.ownBlock] at e, hla⟩, hb⟩
theorem Step_run {B : Nat} {kind : Int} {L : List Pr} {c : Nat} {S : Nat → Prop} {v : Value} (many : Int) (w : World) (hB : B ≤ w.heap.size) (h : RunV w B kind L c S v) (hL : L.length ≤ 1000000) (hmany : many ≤ 9223372036854775807) :
    Calls Tryd.prog 27 #[v, .int .i64 many] w fun e w' => (e = .returned (.bool (decide (min (c + many.toNat) (groups kind L).length = (groups kind L).length))) ∧ RunV w' B kind L (min (c + many.toNat) (groups kind L).length) (fun q => S q ∨ w.heap.size ≤ q) v) ∧ KeptBut S w w' := by
  obtain ⟨g, n, la, lc, va, rfl, h1, h2, h3, h4, h5, h6⟩ := h
  refine (Step_any many w hB h1 h2 hL hmany).mono ?_
  rintro e w' ⟨n', va', ⟨rfl, k1, k2, k3⟩, k4⟩
  obtain ⟨k5, k6⟩ := k2.cap
  refine ⟨⟨?_, g, n', la, lc, va', rfl, by rw [← k6]; exact k1, k5, Nat.min_le_right _ _, .inl h4, fun q e => (k3 q e).imp (h5 q) id, fun b o e => Nat.lt_of_lt_of_le (h6 b o e) k4.size⟩, k4.mono fun q hq => hq.elim (fun e => e ▸ h4) (h5 q)⟩
  refine ret_b (decide_eq_decide.2 (Iff.trans ⟨fun h => ?_, fun h => ?_⟩ k5.over.symm)) <;> omega
theorem Out_run {B : Nat} {kind : Int} {L : List Pr} {c : Nat} {S : Nat → Prop} {v : Value} (w : World) (hg : GT w) (h : RunV w B kind L c S v) (hok : okP L) :
    Calls Tryd.prog 26 #[v] w fun e w' => e = .returned (.string (tx (textP ((groups kind L).take c)))) ∧ Below w.heap.size w w' := by
  obtain ⟨g, n, la, lc, va, rfl, h1, h2, h3, h4, h5, h6⟩ := h
  exact Out_any w hg h1 (run_okP hok kind c)
end Go.Proofs.YtafogaopccajaaaDoor
