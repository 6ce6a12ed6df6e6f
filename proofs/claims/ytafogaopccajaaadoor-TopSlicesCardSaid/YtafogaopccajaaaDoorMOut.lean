/- What a mapper makes: short keys, small numbers (plain). -/
import Derived.Test.YtafogaopccajaaaDoorMPairs
import Derived.Test.YtafogaopccajaaaDoorApp2
import Derived.Test.YtafogaopccajaaaDoorHeldE
import Derived.Test.YtafogaopccajaaaDoorPair4
import Derived.Test.YtafogaopccajaaaDoorJobOpen
import Derived.Test.YtafogaopccajaaaDoorExpr11
set_option linter.unusedSimpArgs false
set_option linter.unusedVariables false
/- The mapper: a run; New. -/
namespace Go.Proofs.YtafogaopccajaaaDoor
open Go.RowKit

/-- what is made of records, one behind the other -/
def madeL (rs : List RuleV) (kind : Int) (lines : List ByteArray) : List Pr := lines.flatMap fun line => pairsJ rs kind line
theorem madeL_succ {lines : List ByteArray} {n : Nat} {x : ByteArray} (rs : List RuleV) (kind : Int) (h : lines[n]? = some x) : madeL rs kind (lines.take (n + 1)) = madeL rs kind (lines.take n) ++ pairsJ rs kind x := by
  obtain ⟨hlt, hx⟩ := List.getElem?_eq_some_iff.1 h
  unfold madeL
  rw [List.take_succ_eq_append_getElem hlt, hx, List.flatMap_append]
  simp
theorem madeL_append (rs : List RuleV) (kind : Int) (a b : List ByteArray) : madeL rs kind (a ++ b) = madeL rs kind a ++ madeL rs kind b := List.flatMap_append
theorem madeL_len (rs : List RuleV) (kind : Int) (hr : rs.length ≤ 4) : ∀ (lines : List ByteArray), (∀ l ∈ lines, l.size ≤ 500) → (madeL rs kind lines).length ≤ lines.length * 2008
  | [], _ => by simp [madeL]
  | a :: l, h => by
    have h1 := madeL_len rs kind hr l fun x hx => h x (List.mem_cons_of_mem _ hx)
    have h2 := pairsJ_small rs kind a (h a List.mem_cons_self)
    have h3 := Nat.mul_le_mul_right 502 hr
    unfold madeL at h1 ⊢
    rw [List.flatMap_cons, List.length_append, List.length_cons, Nat.succ_mul]
    omega
/-- a job as it lies: its rules can be read -/
structure JobAt (w : World) (ro : Option Addr) (rs : List RuleR) (d : Nat) : Prop where
  sl : Sl 15 encRule w ro rs
  at_ : ∀ r ∈ rs, RuleAt w d r
theorem JobAt.later {w w' : World} {ro : Option Addr} {rs : List RuleR} {d B : Nat} (h : JobAt w ro rs d) (hb : Below B w w') (hB : w.heap.size ≤ B) : JobAt w' ro rs d :=
  ⟨h.sl.later hb hB, fun r hr => (h.at_ r hr).later hb hB⟩
/-- a job that may be -/
structure JobOk (rs : List RuleR) (fold slices : Int) : Prop where
  many : 1 ≤ rs.length ∧ rs.length ≤ 4
  fold : 1 ≤ fold ∧ fold ≤ 4
  slices : 1 ≤ slices ∧ slices ≤ 4
  ok : ∀ r ∈ rs, RuleOk r.v
theorem JobOk.of {rs : List RuleR} {fold slices : Int} (h : jobF (rs.map RuleR.v) fold slices = 0) : JobOk rs fold slices := by
  obtain ⟨h1, h2, h3, h4⟩ := jobF_ok h
  rw [List.length_map] at h1
  exact ⟨h1, h2, h3, fun r hr => RuleOk.of (h4 _ (List.mem_map_of_mem hr))⟩
/-- the run in block g: its job, its records, how far it is, what is out -/
structure MRunAt (w : World) (base g : Nat) (ro : Option Addr) (rc : Nat) (rs : List RuleR) (fold slices : Int) (early : Bool) (lines : List ByteArray) (n : Nat) (la : Option Addr) (lc : Nat) (va : Value) : Prop where
  bk : Bk w g [.slice ro rs.length rc, .int .i64 fold, .bool early, .int .i64 slices, .slice la lines.length lc, .int .i64 n, va]
  lo : base ≤ g
  sl : Sl 1 encS w la lines
  own : Own 2 encP 54 w base va (madeL (rs.map RuleR.v) fold (lines.take n))
  apart : va.ownBlock ≠ some g ∧ ∀ b off, la = some ⟨b, off, none⟩ → (b ≠ g ∧ b < w.heap.size) ∧ va.ownBlock ≠ some b
  at_le : n ≤ lines.length
theorem MRunAt.later {w w' : World} {base g : Nat} {ro : Option Addr} {rc : Nat} {rs : List RuleR} {fold slices : Int} {early : Bool} {lines : List ByteArray} {n : Nat} {la : Option Addr} {lc : Nat} {va : Value} (h : MRunAt w base g ro rc rs fold slices early lines n la lc va) (hb : Below w.heap.size w w') : MRunAt w' base g ro rc rs fold slices early lines n la lc va :=
  ⟨h.bk.later hb, h.lo, h.sl.later hb (Nat.le_refl _), h.own.later hb, ⟨h.apart.1, fun b o e => ⟨⟨(h.apart.2 b o e).1.1, Nat.lt_of_lt_of_le (h.apart.2 b o e).1.2 hb.size⟩, (h.apart.2 b o e).2⟩⟩, h.at_le⟩
theorem infoStrM : (Tryd.prog.info? 9).map (fun i => (i.zero, i.size, i.bytes)) = some (some (.string ⟨#[]⟩), 1, 16) := by kernel_rfl
set_option maxRecDepth 100000 in
set_option maxHeartbeats 2000000 in
theorem MNew_any (ro : Option Addr) (rc : Nat) (rs : List RuleR) (fold slices : Int) (early : Bool) (d : Nat) (lo : Option Addr) (lc : Nat) (lines : List ByteArray) (w : World) (hj : JobAt w ro rs d) (hl : rs.length ≤ maxLen) (hll : lines.length ≤ 1000000) (hs : Sl 1 encS w lo lines) (hn : lo = none → lc = 0) (hok : jobF (rs.map RuleR.v) fold slices = 0) (h60 : lines.length ≤ 60) :
    Calls Tryd.prog 20 #[.agg #[.slice ro rs.length rc, .int .i64 fold, .bool early, .int .i64 slices], .slice lo lines.length lc] w fun e w' => (∃ g la lc', e = .returned (.tuple #[.pointer (some ⟨g, 0, none⟩), .nilIface]) ∧ MRunAt w' w.heap.size g ro rc rs fold slices early lines 0 la lc' (.slice none 0 0)) ∧ Below w.heap.size w w' := by
  obtain ⟨i0, hi0, hz0, hz1, hz2⟩ := info_parts infoStrM
  obtain ⟨W1, hW1⟩ : ∃ W, W = w.alloc (.cells #[.slice ro rs.length rc, .int .i64 fold, .bool early, .int .i64 slices] 24) := ⟨_, rfl⟩
  have hb1 : Below w.heap.size w W1 := by rw [hW1]; exact (Below.refl _ _).alloc (Nat.le_refl _) _
  have hbj : Bk W1 w.heap.size [.slice ro rs.length rc, .int .i64 fold, .bool early, .int .i64 slices] := by rw [hW1]; exact Bk.new rfl
  have HJ := hide hj
  have HB := hide hb1
  have HBJ := hide hbj
  have HW1 := hide hW1
  have HS := hide hs
  have HN := hide hn
  have HJC := hide (jobCheck_any ro rc rs fold slices early W1 hl (hj.sl.later hb1 (Nat.le_refl _)) fun r hr => ⟨d, (hj.at_ r hr).later hb1 (Nat.le_refl _)⟩)
  rw [hok, errV_zero] at HJC
  clear hj hs hn hb1 hbj hW1
  go_enter Tryd.func20, Tryd.ntmps20
  go_upto_region 1 with (fail)
  rw [← HW1.out]
  clear HW1
  have j0 := HBJ.out.get (j := 0) rfl
  have j1 := HBJ.out.get (j := 1) rfl
  have j2 := HBJ.out.get (j := 2) rfl
  have j3 := HBJ.out.get (j := 3) rfl
  go_wp2_with fail
  refine HJC.out.mono ?_
  rintro e w2 ⟨rfl, b2⟩
  replace j0 := cell_later b2 j0
  replace j1 := cell_later b2 j1
  replace j2 := cell_later b2 j2
  replace j3 := cell_later b2 j3
  replace HB := hide (HB.out.trans (b2.mono HB.out.size))
  replace HBJ := hide (HBJ.out.later b2)
  clear b2 HJC
  have g1 : decide ((60 : Int) < (lines.length : Int)) = false := by simp; omega
  go_upto_region 6 with (fail)
  have HOW : ∀ nq, Own 1 encS 9 (w2.drewN nq) w2.heap.size (.slice none 0 0) ([] : List ByteArray) := fun nq => Own.nil
  have HS2 := hide (HS.out.later HB.out (Nat.le_refl _))
  go_region_law (refine step_append_any (enc := encS) encS_len _ _ 40 i0 _ rfl rfl Tryd.underlying40 hi0 hz0 hz1 hz2 rfl (by decide) (by decide) (Own.nil (w := w2.drew) (base := w2.heap.size)) (Below.refl _ _) (Nat.le_refl _) lines (by simp; omega) rfl lo lc lines.length rfl rfl HN.out HS2.out (one_flat one_str) ?_; intro v' w1 ho hb1 hgr hat; obtain ⟨na, nc, rfl⟩ := id ho.1; have q0 := cell_later (w := w2.drew) hb1 j0; have q1 := cell_later (w := w2.drew) hb1 j1; have q2 := cell_later (w := w2.drew) hb1 j2; have q3 := cell_later (w := w2.drew) hb1 j3)
  all_goals
    have HBa := hide (HB.out.trans (((Below.refl w2.heap.size w2).drew.trans hb1).mono HB.out.size))
    have hsz : w2.heap.size ≤ w1.heap.size := hb1.size
    have hba : Below w1.heap.size w1 (w1.alloc (.cells #[.slice ro rs.length rc, .int .i64 fold, .bool early, .int .i64 slices, .slice na lines.length nc, .int .i64 0, .slice none 0 0] 83)) := (Below.refl _ _).alloc (Nat.le_refl _) _
    have HRA : Hid (MRunAt (w1.alloc (.cells #[.slice ro rs.length rc, .int .i64 fold, .bool early, .int .i64 slices, .slice na lines.length nc, .int .i64 0, .slice none 0 0] 83)) w.heap.size w1.heap.size ro rc rs fold slices early lines 0 na nc (.slice none 0 0)) := by
      refine ⟨Bk.new rfl, HBa.out.size, (ho.sl encS_len).later hba (Nat.le_refl _), Own.nil, ⟨by simp [Value.ownBlock], ?_⟩, Nat.zero_le _⟩
      rintro b off rfl
      have := (ho.lt b rfl).2
      exact ⟨⟨by omega, by have := hba.size; omega⟩, by simp [Value.ownBlock]⟩
    have HB9 := hide (HBa.out.trans (hba.mono HBa.out.size))
    clear ho hb1 hgr hat q0 q1 q2 q3 hba HBa
    go_wp2
    go_ret2
    exact ⟨⟨_, _, _, rfl, HRA.out⟩, HB9.out⟩
end Go.Proofs.YtafogaopccajaaaDoor
/- Small laws of pairs that several walks use. -/
namespace Go.Proofs.YtafogaopccajaaaDoor
open Go.RowKit

theorem textP_small : ∀ (l : List Pr), (∀ p ∈ l, p.1.size ≤ 60 ∧ -9223372036854775808 ≤ p.2 ∧ p.2 ≤ 9223372036854775807) → (textP l).length ≤ 103 * l.length
  | [], _ => Nat.le_refl _
  | p :: l, h => by
    have h1 := h p List.mem_cons_self
    have h3 := textP_small l fun x hx => h x (List.mem_cons_of_mem _ hx)
    have h4 : (Lib.itoa (p.1.size : Int)).length ≤ 20 := itoa_len (by omega) (by omega)
    have h5 : (Lib.itoa p.2).length ≤ 20 := itoa_len h1.2.1 h1.2.2
    rw [show textP (p :: l) = lineP p ++ textP l from rfl, List.length_append, List.length_cons]
    unfold lineP
    simp only [List.length_append, List.length_cons, List.length_nil, tl_len]
    omega
theorem light_of {l : List Pr} {m : Int} (h : lightPairs l m = true) : (l.length : Int) ≤ m ∧ ∀ p ∈ l, p.1.size ≤ 60 := by
  simp only [lightPairs, Bool.and_eq_true, decide_eq_true_eq, List.all_eq_true, shortKey] at h
  exact h
theorem rise_at {l : List Pr} (h : Rise l) {k : Nat} {a b : Pr} (ha : l[k]? = some a) (hb : l[k + 1]? = some b) : Op.bytesLess b.1.toList a.1.toList = false := by
  obtain ⟨h1, e1⟩ := List.getElem?_eq_some_iff.1 ha
  obtain ⟨h2, e2⟩ := List.getElem?_eq_some_iff.1 hb
  have := (List.pairwise_iff_getElem.1 h) k (k + 1) h1 h2 (by omega)
  rw [e1, e2] at this
  exact this
theorem rises_rise {l : List Pr} (h : rises l = true) : Rise l := by
  have hadj : ∀ (i : Nat) x y, l[i]? = some x → l[i + 1]? = some y → klt y x = false := by
    intro i x y hx hy
    unfold rises upTo at h
    have h2 := List.all_eq_true.1 h i (List.mem_range.2 (List.getElem?_eq_some_iff.1 hx).1)
    rw [hx, hy] at h2
    simpa [klt] using h2
  refine List.pairwise_iff_getElem.2 fun i j hi hj hij => ?_
  have key : ∀ d, ∀ (hj : i + 1 + d < l.length), klt l[i + 1 + d] l[i] = false := by
    intro d
    induction d with
    | zero => intro hj; exact hadj i _ _ (List.getElem?_eq_getElem hi) (List.getElem?_eq_getElem hj)
    | succ d ih =>
      intro hj
      exact kle_trans (ih (by omega)) (hadj (i + 1 + d) _ _ (List.getElem?_eq_getElem (by omega)) (List.getElem?_eq_getElem hj))
  have := key (j - (i + 1)) (by omega)
  simpa [show i + 1 + (j - (i + 1)) = j by omega] using this
theorem flat_len_le {ls : List (List Pr)} {n k : Nat} (h : ∀ l ∈ ls, l.length ≤ n) (hk : ls.length ≤ k) : ls.flatten.length ≤ k * n := by
  induction ls generalizing k with
  | nil => simp
  | cons a ls ih =>
    obtain ⟨k, rfl⟩ : ∃ m, k = m + 1 := ⟨k - 1, by simp at hk; omega⟩
    have h1 := ih (fun l hl => h l (List.mem_cons_of_mem _ hl)) (k := k) (by simpa using hk)
    have h2 := h a List.mem_cons_self
    rw [List.flatten_cons, List.length_append, Nat.succ_mul]
    omega
end Go.Proofs.YtafogaopccajaaaDoor
namespace Go.Proofs.YtafogaopccajaaaDoor
open Go.RowKit

theorem intE_bd {line it : ByteArray} {ws : List ByteArray} {each : Bool} (hl : line.size ≤ 1000) (hi : it.size ≤ 1000) (hw : ∀ x ∈ ws, x.size ≤ 1000) (hws : ws.length ≤ 1000) : ∀ e : ExprV, shE e false each = true → e.nodes ≤ 1000 → -9223372036854775808 ≤ intE e line it ws ∧ intE e line it ws ≤ 9223372036854775807
  | .mk k n s a, h, hn => by
    obtain ⟨p1, p2, p3, p4, p5, p6⟩ := shE_parts h
    rw [intE]
    unfold intK
    split
    · rename_i h7
      subst h7
      unfold nOk at p2
      rw [if_neg (by omega), if_neg (by omega), if_pos rfl] at p2
      simp only [Bool.and_eq_true, decide_eq_true_eq] at p2
      omega
    · split
      · rename_i h8
        subst h8
        match a, p5 with
        | [x], _ =>
          have hx : shE x true each = true := by
            simp only [kidsOf, show (8 : Int) ≠ 5 by decide, if_false, or_true, if_true, shL, Bool.and_eq_true] at p6
            exact p6.1
          have h1 := strE_le hl hi hw x hx
          have h2 : x.nodes ≤ 1000 := by
            simp only [ExprV.nodes, ExprV.nodesL] at hn
            omega
          have h3 := Nat.mul_le_mul_left 1000 h2
          simp only [strL, List.getD_cons_zero]
          omega
      · split
        · omega
        · split
          · rw [IntKind.wrap_i64]
            omega
          · omega
theorem pairsR_ok {r : RuleV} (hok : RuleOk r) (kind : Int) (line : ByteArray) (hl : line.size ≤ 500) : ∀ p ∈ pairsR r kind line, p.1.size ≤ 20 ∧ -9223372036854775808 ≤ p.2 ∧ p.2 ≤ 9223372036854775807 := by
  intro p hp
  unfold pairsR at hp
  obtain ⟨it, hit, hm⟩ := List.mem_filterMap.1 hp
  have hwl := words_line hl
  have his : it.size ≤ 1000 := by
    unfold itsR at hit
    split at hit
    · exact hwl.2 it hit
    · rw [List.mem_singleton.1 hit]; decide
  unfold madeR at hm
  split at hm
  · obtain rfl := Option.some.inj hm
    unfold pairR
    refine ⟨?_, ?_⟩
    · show (cut20 _).size ≤ 20
      unfold cut20
      rw [ByteArray.size_extract]
      omega
    · have hv := intE_bd (line := line) (it := it) (ws := wordsB line) (each := r.each) (by omega) his hwl.2 (by omega) r.val hok.val.2.2 (by have := hok.val.1; omega)
      show -9223372036854775808 ≤ first kind _ ∧ first kind _ ≤ 9223372036854775807
      unfold first
      split
      · omega
      · exact hv
  · cases hm
theorem pairsJ_ok {rs : List RuleV} (hok : ∀ r ∈ rs, RuleOk r) (kind : Int) (line : ByteArray) (hl : line.size ≤ 500) : ∀ p ∈ pairsJ rs kind line, p.1.size ≤ 20 ∧ -9223372036854775808 ≤ p.2 ∧ p.2 ≤ 9223372036854775807 := by
  intro p hp
  unfold pairsJ at hp
  obtain ⟨r, hr, hp⟩ := List.mem_flatMap.1 hp
  exact pairsR_ok (hok r hr) kind line hl p hp
theorem madeL_ok {rs : List RuleV} (hok : ∀ r ∈ rs, RuleOk r) (kind : Int) {lines : List ByteArray} (hl : ∀ l ∈ lines, l.size ≤ 500) : ∀ p ∈ madeL rs kind lines, p.1.size ≤ 20 ∧ -9223372036854775808 ≤ p.2 ∧ p.2 ≤ 9223372036854775807 := by
  intro p hp
  unfold madeL at hp
  obtain ⟨x, hx, hp⟩ := List.mem_flatMap.1 hp
  exact pairsJ_ok hok kind x (hl x hx) p hp
end Go.Proofs.YtafogaopccajaaaDoor
