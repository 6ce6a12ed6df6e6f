/- The mapper: a run; New. -/
import Derived.Test.YtgeedjlbajmdkaaGreatDoorMPairs
import Derived.Test.YtgeedjlbajmdkaaGreatDoorWords
import Derived.Test.YtgeedjlbajmdkaaGreatDoorOne
set_option linter.unusedSimpArgs false
set_option linter.unusedVariables false
namespace Go.Proofs.YtgeedjlbajmdkaaGreatDoor
open Go.RowKit

/-- what is made of records, one behind the other -/
def madeL (rs : List RuleV) (kind : Int) (lines : List ByteArray) : List Pr := lines.flatMap fun line => pairsJ rs kind line
theorem madeL_succ {lines : List ByteArray} {n : Nat} {x : ByteArray} (rs : List RuleV) (kind : Int) (h : lines[n]? = some x) : madeL rs kind (lines.take (n + 1)) = madeL rs kind (lines.take n) ++ pairsJ rs kind x := by
  obtain ⟨hlt, hx⟩ := List.getElem?_eq_some_iff.1 h
  unfold madeL
  rw [List.take_succ_eq_append_getElem hlt, hx, List.flatMap_append]
  simp
theorem madeL_append (rs : List RuleV) (kind : Int) (a b : List ByteArray) : madeL rs kind (a ++ b) = madeL rs kind a ++ madeL rs kind b := List.flatMap_append
theorem madeL_len (rs : List RuleV) (kind : Int) (hr : rs.length ≤ 4) : ∀ (lines : List ByteArray), (∀ l ∈ lines, l.size ≤ 500) → (madeL rs kind lines).length ≤ lines.length * 2008
  | [], _ => by simp [madeL]
  | a :: l, h => by
    have h1 := madeL_len rs kind hr l fun x hx => h x (List.mem_cons_of_mem _ hx)
    have h2 := pairsJ_small rs kind a (h a List.mem_cons_self)
    have h3 := Nat.mul_le_mul_right 502 hr
    unfold madeL at h1 ⊢
    rw [List.flatMap_cons, List.length_append, List.length_cons, Nat.succ_mul]
    omega
/-- a job as it lies: its rules can be read -/
structure JobAt (w : World) (ro : Option Addr) (rs : List RuleR) (d : Nat) : Prop where
  sl : Sl 15 encRule w ro rs
  at_ : ∀ r ∈ rs, RuleAt w d r
theorem JobAt.later {w w' : World} {ro : Option Addr} {rs : List RuleR} {d B : Nat} (h : JobAt w ro rs d) (hb : Below B w w') (hB : w.heap.size ≤ B) : JobAt w' ro rs d :=
  ⟨h.sl.later hb hB, fun r hr => (h.at_ r hr).later hb hB⟩
/-- a job that may be -/
structure JobOk (rs : List RuleR) (fold slices : Int) : Prop where
  many : 1 ≤ rs.length ∧ rs.length ≤ 4
  fold : 1 ≤ fold ∧ fold ≤ 4
  slices : 1 ≤ slices ∧ slices ≤ 4
  ok : ∀ r ∈ rs, RuleOk r.v
theorem JobOk.of {rs : List RuleR} {fold slices : Int} (h : jobF (rs.map RuleR.v) fold slices = 0) : JobOk rs fold slices := by
  obtain ⟨h1, h2, h3, h4⟩ := jobF_ok h
  rw [List.length_map] at h1
  exact ⟨h1, h2, h3, fun r hr => RuleOk.of (h4 _ (List.mem_map_of_mem hr))⟩
/-- the run in block g: its job, its records, how far it is, what is out -/
structure MRunAt (w : World) (base g : Nat) (ro : Option Addr) (rc : Nat) (rs : List RuleR) (fold slices : Int) (early : Bool) (lines : List ByteArray) (n : Nat) (la : Option Addr) (lc : Nat) (va : Value) : Prop where
  bk : Bk w g [.slice ro rs.length rc, .int .i64 fold, .bool early, .int .i64 slices, .slice la lines.length lc, .int .i64 n, va]
  lo : base ≤ g
  sl : Sl 1 encS w la lines
  own : Own 2 encP 101 w base va (madeL (rs.map RuleR.v) fold (lines.take n))
  apart : va.ownBlock ≠ some g ∧ ∀ b off, la = some ⟨b, off, none⟩ → (b ≠ g ∧ b < w.heap.size) ∧ va.ownBlock ≠ some b
  at_le : n ≤ lines.length
theorem MRunAt.later {w w' : World} {base g : Nat} {ro : Option Addr} {rc : Nat} {rs : List RuleR} {fold slices : Int} {early : Bool} {lines : List ByteArray} {n : Nat} {la : Option Addr} {lc : Nat} {va : Value} (h : MRunAt w base g ro rc rs fold slices early lines n la lc va) (hb : Below w.heap.size w w') : MRunAt w' base g ro rc rs fold slices early lines n la lc va :=
  ⟨h.bk.later hb, h.lo, h.sl.later hb (Nat.le_refl _), h.own.later hb, ⟨h.apart.1, fun b o e => ⟨⟨(h.apart.2 b o e).1.1, Nat.lt_of_lt_of_le (h.apart.2 b o e).1.2 hb.size⟩, (h.apart.2 b o e).2⟩⟩, h.at_le⟩
theorem infoStrM : (Tryz.prog.info? 9).map (fun i => (i.zero, i.size, i.bytes)) = some (some (.string ⟨#[]⟩), 1, 16) := by kernel_rfl
set_option maxRecDepth 100000 in
set_option maxHeartbeats 2000000 in
theorem MNew_lo (ro : Option Addr) (rc : Nat) (rs : List RuleR) (fold slices : Int) (early : Bool) (d : Nat) (lo : Option Addr) (lc : Nat) (lines : List ByteArray) (w : World) (hj : JobAt w ro rs d) (hl : rs.length ≤ maxLen) (hll : lines.length ≤ 1000000) (hs : Sl 1 encS w lo lines) (hn : lo = none → lc = 0) (hok : jobF (rs.map RuleR.v) fold slices = 0) (h60 : lines.length ≤ 60) :
    Calls Tryz.prog 21 #[.agg #[.slice ro rs.length rc, .int .i64 fold, .bool early, .int .i64 slices], .slice lo lines.length lc] w fun e w' => (∃ g la lc', e = .returned (.tuple #[.pointer (some ⟨g, 0, none⟩), .nilIface]) ∧ MRunAt w' w.heap.size g ro rc rs fold slices early lines 0 la lc' (.slice none 0 0) ∧ ∀ b o, la = some ⟨b, o, none⟩ → w.heap.size ≤ b) ∧ Below w.heap.size w w' := by
  obtain ⟨i0, hi0, hz0, hz1, hz2⟩ := info_parts infoStrM
  obtain ⟨W1, hW1⟩ : ∃ W, W = w.alloc (.cells #[.slice ro rs.length rc, .int .i64 fold, .bool early, .int .i64 slices] 24) := ⟨_, rfl⟩
  have hb1 : Below w.heap.size w W1 := by rw [hW1]; exact (Below.refl _ _).alloc (Nat.le_refl _) _
  have hbj : Bk W1 w.heap.size [.slice ro rs.length rc, .int .i64 fold, .bool early, .int .i64 slices] := by rw [hW1]; exact Bk.new rfl
  have HJ := hide hj
  have HB := hide hb1
  have HBJ := hide hbj
  have HW1 := hide hW1
  have HS := hide hs
  have HN := hide hn
  have HJC := hide (jobCheck_any ro rc rs fold slices early W1 hl (hj.sl.later hb1 (Nat.le_refl _)) fun r hr => ⟨d, (hj.at_ r hr).later hb1 (Nat.le_refl _)⟩)
  rw [hok, errV_zero] at HJC
  clear hj hs hn hb1 hbj hW1
  go_enter Tryz.func21, Tryz.ntmps21
  go_upto_region 1 with (fail)
  rw [← HW1.out]
  clear HW1
  have j0 := HBJ.out.get (j := 0) rfl
  have j1 := HBJ.out.get (j := 1) rfl
  have j2 := HBJ.out.get (j := 2) rfl
  have j3 := HBJ.out.get (j := 3) rfl
  go_wp2_with fail
  refine HJC.out.mono ?_
  rintro e w2 ⟨rfl, b2⟩
  replace j0 := cell_later b2 j0
  replace j1 := cell_later b2 j1
  replace j2 := cell_later b2 j2
  replace j3 := cell_later b2 j3
  replace HB := hide (HB.out.trans (b2.mono HB.out.size))
  replace HBJ := hide (HBJ.out.later b2)
  clear b2 HJC
  have g1 : decide ((60 : Int) < (lines.length : Int)) = false := by simp; omega
  go_upto_region 6 with (fail)
  have HOW : ∀ nq, Own 1 encS 9 (w2.drewN nq) w2.heap.size (.slice none 0 0) ([] : List ByteArray) := fun nq => Own.nil
  have HS2 := hide (HS.out.later HB.out (Nat.le_refl _))
  go_region_law (refine step_append_any (enc := encS) encS_len _ _ 42 i0 _ rfl rfl Tryz.underlying42 hi0 hz0 hz1 hz2 rfl (by decide) (by decide) (Own.nil (w := w2.drew) (base := w2.heap.size)) (Below.refl _ _) (Nat.le_refl _) lines (by simp; omega) rfl lo lc lines.length rfl rfl HN.out HS2.out (one_flat one_str) ?_; intro v' w1 ho hb1 hgr hat; obtain ⟨na, nc, rfl⟩ := id ho.1; have q0 := cell_later (w := w2.drew) hb1 j0; have q1 := cell_later (w := w2.drew) hb1 j1; have q2 := cell_later (w := w2.drew) hb1 j2; have q3 := cell_later (w := w2.drew) hb1 j3)
  all_goals
    have HBa := hide (HB.out.trans (((Below.refl w2.heap.size w2).drew.trans hb1).mono HB.out.size))
    have hsz : w2.heap.size ≤ w1.heap.size := hb1.size
    have hba : Below w1.heap.size w1 (w1.alloc (.cells #[.slice ro rs.length rc, .int .i64 fold, .bool early, .int .i64 slices, .slice na lines.length nc, .int .i64 0, .slice none 0 0] 104)) := (Below.refl _ _).alloc (Nat.le_refl _) _
    have HRA : Hid (MRunAt (w1.alloc (.cells #[.slice ro rs.length rc, .int .i64 fold, .bool early, .int .i64 slices, .slice na lines.length nc, .int .i64 0, .slice none 0 0] 104)) w.heap.size w1.heap.size ro rc rs fold slices early lines 0 na nc (.slice none 0 0)) := by
      refine ⟨Bk.new rfl, HBa.out.size, (ho.sl encS_len).later hba (Nat.le_refl _), Own.nil, ⟨by simp [Value.ownBlock], ?_⟩, Nat.zero_le _⟩
      rintro b off rfl
      have := (ho.lt b rfl).2
      exact ⟨⟨by omega, by have := hba.size; omega⟩, by simp [Value.ownBlock]⟩
    have HB9 := hide (HBa.out.trans (hba.mono HBa.out.size))
    have HLW : Hid (∀ b o, na = some ⟨b, o, none⟩ → w.heap.size ≤ b) := fun b o e => by
      subst e
      exact Nat.le_trans HB.out.size (ho.lt b rfl).1
    clear ho hb1 hgr hat q0 q1 q2 q3 hba HBa
    go_wp2
    go_ret2
    exact ⟨⟨_, _, _, rfl, HRA.out, HLW.out⟩, HB9.out⟩
theorem MNew_any (ro : Option Addr) (rc : Nat) (rs : List RuleR) (fold slices : Int) (early : Bool) (d : Nat) (lo : Option Addr) (lc : Nat) (lines : List ByteArray) (w : World) (hj : JobAt w ro rs d) (hl : rs.length ≤ maxLen) (hll : lines.length ≤ 1000000) (hs : Sl 1 encS w lo lines) (hn : lo = none → lc = 0) (hok : jobF (rs.map RuleR.v) fold slices = 0) (h60 : lines.length ≤ 60) :
    Calls Tryz.prog 21 #[.agg #[.slice ro rs.length rc, .int .i64 fold, .bool early, .int .i64 slices], .slice lo lines.length lc] w fun e w' => (∃ g la lc', e = .returned (.tuple #[.pointer (some ⟨g, 0, none⟩), .nilIface]) ∧ MRunAt w' w.heap.size g ro rc rs fold slices early lines 0 la lc' (.slice none 0 0)) ∧ Below w.heap.size w w' :=
  (MNew_lo ro rc rs fold slices early d lo lc lines w hj hl hll hs hn hok h60).mono fun e w' ⟨⟨g, la, lc', he, h, _⟩, hb⟩ => ⟨⟨g, la, lc', he, h⟩, hb⟩
end Go.Proofs.YtgeedjlbajmdkaaGreatDoor
