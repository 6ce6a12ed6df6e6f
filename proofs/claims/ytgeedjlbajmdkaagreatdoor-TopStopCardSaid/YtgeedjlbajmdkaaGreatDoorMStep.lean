/- The mapper: Step. -/
import Derived.Test.YtgeedjlbajmdkaaGreatDoorMRun
import Derived.Test.YtgeedjlbajmdkaaGreatDoorOne
set_option linter.unusedSimpArgs false
set_option linter.unusedVariables false
namespace Go.Proofs.YtgeedjlbajmdkaaGreatDoor
open Go.RowKit

def MStepPost (base g : Nat) (ro : Option Addr) (rc : Nat) (rs : List RuleR) (fold slices : Int) (early : Bool) (lines : List ByteArray) (n : Nat) (la : Option Addr) (lc : Nat) (va : Value) (w : World) (e : Ending) (w' : World) : Prop :=
  ∃ va', (e = .returned (.bool (decide (n = lines.length))) ∧ MRunAt w' base g ro rc rs fold slices early lines n la lc va' ∧ (∀ q, va'.ownBlock = some q → va.ownBlock = some q ∨ w.heap.size ≤ q)) ∧ KeptBut (fun q => q = g ∨ va.ownBlock = some q) w w'
/-- a record more -/
theorem mstep_next {base g : Nat} {ro : Option Addr} {rc : Nat} {rs : List RuleR} {fold slices : Int} {early : Bool} {lines : List ByteArray} {n : Nat} {la : Option Addr} {lc : Nat} {va v' va0 : Value} {line : ByteArray} {w0 w W w1 : World} (h : MRunAt w base g ro rc rs fold slices early lines n la lc va) (hn : lines[n]? = some line) (hb : Below w.heap.size w W)
    (ho : Own 2 encP 101 w1 base v' (madeL (rs.map RuleR.v) fold (lines.take n) ++ pairsJ (rs.map RuleR.v) fold line)) (hg : W.grownBy w1 va.ownBlock) (hat : v'.ownBlock = va.ownBlock ∨ v'.ownBlock = some W.heap.size)
    (hv : ∀ q, va.ownBlock = some q → va0.ownBlock = some q ∨ w0.heap.size ≤ q) (hk : KeptBut (fun q => q = g ∨ va0.ownBlock = some q) w0 w) :
    (MRunAt ((w1.setCell ⟨g, 6, none⟩ v').setCell ⟨g, 5, none⟩ (.int .i64 ((n : Int) + 1))) base g ro rc rs fold slices early lines (n + 1) la lc v' ∧ (∀ q, v'.ownBlock = some q → va0.ownBlock = some q ∨ w0.heap.size ≤ q) ∧ KeptBut (fun q => q = g ∨ va0.ownBlock = some q) w0 ((w1.setCell ⟨g, 6, none⟩ v').setCell ⟨g, 5, none⟩ (.int .i64 ((n : Int) + 1)))) ∧ Bk w1 g [.slice ro rs.length rc, .int .i64 fold, .bool early, .int .i64 slices, .slice la lines.length lc, .int .i64 n, va] := by
  have hgl := h.bk.lt
  have hkg : KeptBut (fun q => va.ownBlock = some q) W w1 := KeptBut.of_grown hg fun k e => e
  have hbk1 := (h.bk.later hb).kept hkg h.apart.1
  have hws := hk.size
  have hbs := hb.size
  have hk1 : KeptBut (fun q => q = g ∨ va0.ownBlock = some q) w0 w1 := (hk.trans (KeptBut.of_below hb (Nat.le_refl _))).grownTo hg fun k e => (hv k e).imp .inr id
  have hv'g : v'.ownBlock ≠ some g := fun e => by
    rcases hat with h1 | h1
    · rw [h1] at e; exact h.apart.1 e
    · rw [h1] at e; have := Option.some.inj e; omega
  have hsl1 : Sl 1 encS w1 la lines := (h.sl.later hb (Nat.le_refl _)).kept hkg fun b o e => (h.apart.2 b o e).2
  have hb6 := hbk1.set (k := 6) (u := va) v' rfl
  have hb5 := hb6.set (k := 5) (u := .int .i64 n) (.int .i64 ((n : Int) + 1)) rfl
  have hnl : n < lines.length := (List.getElem?_eq_some_iff.1 hn).1
  have hkq : KeptBut (fun q => q = g) w1 ((w1.setCell ⟨g, 6, none⟩ v').setCell ⟨g, 5, none⟩ (.int .i64 ((n : Int) + 1))) := ((KeptBut.refl (fun q => q = g) w1).setCell (p := ⟨g, 6, none⟩) rfl _).setCell (p := ⟨g, 5, none⟩) rfl _
  refine ⟨⟨⟨?_, h.lo, hsl1.kept hkq fun b o e => (h.apart.2 b o e).1.1, ?_, ⟨hv'g, fun b o e => ⟨⟨(h.apart.2 b o e).1.1, ?_⟩, fun e2 => ?_⟩⟩, hnl⟩, fun q e => ?_, ?_⟩, hbk1⟩
  · have : ((n : Int) + 1) = ((n + 1 : Nat) : Int) := by omega
    rw [← this]
    exact hb5
  · rw [madeL_succ _ _ hn]
    exact (ho.setOther (a := ⟨g, 6, none⟩) hv'g _).setOther (a := ⟨g, 5, none⟩) hv'g _
  · have h1 := (h.apart.2 b o e).1.2
    have h2 := hkg.size
    have h3 := hkq.size
    omega
  · rcases hat with h1 | h1
    · rw [h1] at e2; exact (h.apart.2 b o e).2 e2
    · rw [h1] at e2
      have := Option.some.inj e2
      have := (h.apart.2 b o e).1.2
      omega
  · rcases hat with h1 | h1
    · rw [h1] at e; exact hv q e
    · rw [h1] at e; have := Option.some.inj e; right; omega
  · exact (hk1.setCell (p := ⟨g, 6, none⟩) (.inl rfl) _).setCell (p := ⟨g, 5, none⟩) (.inl rfl) _
theorem mstep_end {base g : Nat} {ro : Option Addr} {rc : Nat} {rs : List RuleR} {fold slices : Int} {early : Bool} {lines : List ByteArray} {n m : Nat} {la : Option Addr} {lc : Nat} {va va' : Value} {w wr : World} {b : Bool} (hm : n = m) (hb : decide (n = lines.length) = b) (h1 : MRunAt wr base g ro rc rs fold slices early lines n la lc va') (h3 : ∀ q, va'.ownBlock = some q → va.ownBlock = some q ∨ w.heap.size ≤ q) (h4 : KeptBut (fun q => q = g ∨ va.ownBlock = some q) w wr) (nq : Nat) :
    MStepPost base g ro rc rs fold slices early lines m la lc va w (.returned (.bool b)) (wr.drewN nq) := by
  subst hb hm
  exact ⟨va', ⟨rfl, h1.later (below_drewN (Below.refl _ _) _), h3⟩, h4.drewN nq⟩
theorem mstep_end2 {base g : Nat} {ro : Option Addr} {rc : Nat} {rs : List RuleR} {fold slices : Int} {early : Bool} {lines : List ByteArray} {n m : Nat} {la : Option Addr} {lc : Nat} {va va' : Value} {w wr : World} {b : Bool} (hm : n = m) (hb : decide (n = lines.length) = b) (h1 : MRunAt wr base g ro rc rs fold slices early lines n la lc va') (h3 : ∀ q, va'.ownBlock = some q → va.ownBlock = some q ∨ w.heap.size ≤ q) (h4 : KeptBut (fun q => q = g ∨ va.ownBlock = some q) w wr) (nq np : Nat) :
    MStepPost base g ro rc rs fold slices early lines m la lc va w (.returned (.bool b)) ((wr.drewN nq).drewN np) :=
  mstep_end hm hb (h1.later (below_drewN (Below.refl _ _) _)) h3 (h4.drewN nq) np
set_option maxRecDepth 100000 in
set_option maxHeartbeats 4000000 in
theorem MStep_any {base g : Nat} {ro : Option Addr} {rc : Nat} {rs : List RuleR} {fold slices : Int} {early : Bool} {lines : List ByteArray} {n : Nat} {la : Option Addr} {lc : Nat} {va : Value} (d : Nat) (many : Int) (w : World) (hbase : base ≤ w.heap.size) (hg : ∀ w', Below base w w' → GM w') (hj : ∀ w', Below base w w' → JobAt w' ro rs d) (hok : JobOk rs fold slices) (h : MRunAt w base g ro rc rs fold slices early lines n la lc va) (hli : ∀ l ∈ lines, l.size ≤ 500) (hll : lines.length ≤ 1000) (hmany : many ≤ 9223372036854775807) :
    Calls Tryz.prog 22 #[.pointer (some ⟨g, 0, none⟩), .int .i64 many] w (MStepPost base g ro rc rs fold slices early lines (min (n + many.toNat) lines.length) la lc va w) := by
  obtain ⟨i0, hi0, hz0, hz1, hz2⟩ := info_parts infoPair
  have HR0 := hide h
  have HG := hide hg
  have HJ := hide hj
  have HOK := hide hok
  have HLI := hide hli
  have hrn := hok.many.2
  obtain ⟨M, hM⟩ : ∃ M : Nat, max many 0 = M := ⟨(max many 0).toNat, by omega⟩
  have hMm : many.toNat = M := by omega
  have hM2 : M ≤ 9223372036854775807 := by omega
  rw [hMm]
  have hn0 := h.at_le
  have HLO := hide h.lo
  clear h hMm hg hj hok hli
  go_enter Tryz.func22, Tryz.ntmps22
  go_wp2_with fail
  go_loopw [7] (fun i wr => ∃ (j n' : Nat) (va' : Value), j ≤ M ∧ i = .int .i64 j ∧ n' = min (n + j) lines.length ∧ Hid (MRunAt wr base g ro rc rs fold slices early lines n' la lc va') ∧ Hid (∀ q, va'.ownBlock = some q → va.ownBlock = some q ∨ w.heap.size ≤ q) ∧ Hid (KeptBut (fun q => q = g ∨ va.ownBlock = some q) w wr)) (fun i _ => M - (intOf i).toNat)
  case atStart => exact ⟨0, n, va, by omega, rfl, by omega, HR0, (fun q h => .inl h), KeptBut.refl _ _⟩
  case round =>
    obtain ⟨j, n', va', hj, rfl, hn', HR, HV, HK⟩ := hrel
    have HN := hide hn'
    clear hn'
    obtain ⟨oa, oc, hva⟩ := id HR.out.own.1
    have c4 := HR.out.bk.get (j := 4) rfl
    have c5 := HR.out.bk.get (j := 5) rfl
    have hnl := HR.out.at_le
    by_cases hjM : j < M
    · by_cases he : n' = lines.length
      · have e1 : ((n' : Int) == (lines.length : Int)) = true := by rw [beq_iff_eq]; omega
        have e1' : (n' == lines.length) = true := by rw [beq_iff_eq]; omega
        have HDE : Hid (decide (n' = lines.length) = true) := by show _ = _; simpa using he
        have HMI : Hid (n' = min (n + M) lines.length) := by have := HN.out; show _ = _; omega
        have HE := hide he
        clear he hva
        go_wp2_with fail
        go_quiet (fail)
        go_wp2_with fail
        go_quiet (fail)
        go_wp2_with fail
        go_ret
        exact mstep_end2 (b := true) HMI.out HDE.out HR.out HV.out HK.out _ _
      · have hlt : n' < lines.length := by omega
        have e1 : ((n' : Int) == (lines.length : Int)) = false := by rw [beq_eq_false_iff_ne]; omega
        have e1' : (n' == lines.length) = false := by rw [beq_eq_false_iff_ne]; omega
        obtain ⟨b, off, line, rfl, hbw, hlk, d0⟩ := HR.out.sl.str hlt
        have c0 := HR.out.bk.get (j := 0) rfl
        have c1 := HR.out.bk.get (j := 1) rfl
        have c2 := HR.out.bk.get (j := 2) rfl
        have c3 := HR.out.bk.get (j := 3) rfl
        have c6 := HR.out.bk.get (j := 6) rfl
        have HBS : Hid (Below base w wr) := HK.out.below (fun q hq => by
          rcases hq with rfl | hq
          · exact HLO.out
          · exact (HR0.out.own.lt q hq).1) hbase
        have HP := hide fun (w' : World) (hb : Below wr.heap.size wr w') => by
          have hbw := HBS.out.trans (hb.mono (Nat.le_trans hbase HK.out.size))
          exact Pairs_any ro rc rs fold slices early line d w' (HG.out w' hbw) (by omega) (HLI.out line (List.mem_of_getElem? hlk)) (HJ.out w' hbw).sl (HJ.out w' hbw).at_ HOK.out.ok
        have f1 : (0 : Int) ≤ (n' : Int) ∧ (n' : Int) < (lines.length : Int) := by omega
        obtain ⟨f1, f2⟩ := f1
        go_wp2_with fail
        go_quiet (fail)
        go_wp2_with fail
        replace HP := hide fun (w' : World) (hb : Below (wr.drewN nq).heap.size (wr.drewN nq) w') => HP.out w' ((below_drewN (Below.refl _ _) nq).trans hb)
        have HR2 := hide (HR.out.later (below_drewN (Below.refl _ _) nq))
        have HK2 := hide (HK.out.drewN nq)
        have d1 : (wr.drewN nq).cell? ⟨b, off + n', none⟩ = some (.string line) := d0
        have HLK := hide hlk
        have HBW := hide (Nat.le_trans hbase HK2.out.size)
        have HLN : Hid ((madeL (rs.map RuleR.v) fold (lines.take n')).length + (pairsJ (rs.map RuleR.v) fold line).length ≤ 1000000000) := by
          have h1 := madeL_len (rs.map RuleR.v) fold (by rw [List.length_map]; exact hrn) (lines.take n') (fun l hl => HLI.out l (List.mem_of_mem_take hl))
          have h2 := pairsJ_small (rs.map RuleR.v) fold line (HLI.out line (List.mem_of_getElem? hlk))
          rw [List.length_take] at h1
          rw [List.length_map] at h2
          have h3 := Nat.mul_le_mul_right 502 hrn
          show _ ≤ _
          omega
        have HNX : Hid (n' + 1 = min (n + (j + 1)) lines.length) := by have := HN.out; show _ = _; omega
        clear HR HK HBS c0 c1 c2 c3 c4 c5 c6 d0 hlk hlt HN
        generalize wr.drewN nq = W at *
        subst hva
        have c0 := HR2.out.bk.get (j := 0) rfl
        have c1 := HR2.out.bk.get (j := 1) rfl
        have c2 := HR2.out.bk.get (j := 2) rfl
        have c3 := HR2.out.bk.get (j := 3) rfl
        have c4 := HR2.out.bk.get (j := 4) rfl
        have c5 := HR2.out.bk.get (j := 5) rfl
        have c6 := HR2.out.bk.get (j := 6) rfl
        refine wp_region_noPanic ?_
        refine wp_region_heldE_drew (S := (fun w' => Below W.heap.size W w')) (E := [20, 21, 22, 23]) (by kernel_rfl) ?_ (fun hHeld => ?_)
        · (first | exact (Below.refl _ _).drew | exact hHeld.trans (b1.mono hHeld.size))
        try dsimp only [List.size_toArray, List.length_cons, List.length_nil, Nat.reduceAdd]
        refine wpAnyHE_takeP (i := 0) (oi := { dst := some 19, op := Op.move (Operand.tmp 0), type := 50, pos := "mapper.go:92", after := #[], guard := none }) (v := ?_) rfl (by kernel_rfl) (by kernel_rfl) (by kernel_rfl) (fun _ _ _ h => h) (Or.inl ⟨by rfl, ?_⟩) ?_
        rotate_left
        · (intro w _; go_simp; try with_reducible rfl)
        try simp only [Act.put, List.setIfInBounds_toArray, List.set_cons_zero, List.set_cons_succ]
        refine wpAnyHE_takeP (i := 1) (oi := { dst := some 20, op := Op.move (Operand.tmp 0), type := 50, pos := "mapper.go:92", after := #[], guard := none }) (v := ?_) rfl (by kernel_rfl) (by kernel_rfl) (by kernel_rfl) (fun _ _ _ h => h) (Or.inl ⟨by rfl, ?_⟩) ?_
        rotate_left
        · (intro w _; go_simp; try with_reducible rfl)
        try simp only [Act.put, List.setIfInBounds_toArray, List.set_cons_zero, List.set_cons_succ]
        refine wpAnyHE_takeP (i := 2) (oi := { dst := some 21, op := Op.nilCheck (Operand.tmp 20), type := 0, pos := "mapper.go:92", after := #[{ on := 1, ground := Ground.data }], guard := none }) (v := ?_) rfl (by kernel_rfl) (by kernel_rfl) (by kernel_rfl) (fun _ _ _ h => h) (Or.inl ⟨by rfl, ?_⟩) ?_
        rotate_left
        · (intro w _; go_simp; try with_reducible rfl)
        try simp only [Act.put, List.setIfInBounds_toArray, List.set_cons_zero, List.set_cons_succ]
        refine wpAnyHE_takeP (i := 3) (oi := { dst := some 22, op := Op.fieldAddr 104 (Operand.tmp 21) 3, type := 0, pos := "mapper.go:92", after := #[{ on := 2, ground := Ground.data }], guard := none }) (v := ?_) rfl (by kernel_rfl) (by kernel_rfl) (by kernel_rfl) (fun _ _ _ h => h) (Or.inl ⟨by rfl, ?_⟩) ?_
        rotate_left
        · (intro w _; go_simp; try with_reducible rfl)
        try simp only [Act.put, List.setIfInBounds_toArray, List.set_cons_zero, List.set_cons_succ]
        refine wpAnyHE_take (i := 4) (oi := { dst := some 23, op := Op.load 53 (Operand.tmp 22), type := 53, pos := "mapper.go:92", after := #[{ on := 3, ground := Ground.data }], guard := none }) (v := ?_) [[4], [4], [4], [4]] rfl (by kernel_rfl) (by kernel_rfl) (by kernel_rfl) (by kernel_rfl) (by kernel_rfl) (fun _ _ _ h => h) (Or.inl ⟨by rfl, ?_⟩) (by assumption) ?_
        rotate_left
        · (intro w hSw; (try dsimp only at hSw); (have q0 := cell_later hSw c0; have q1 := cell_later hSw c1; have q2 := cell_later hSw c2; have q3 := cell_later hSw c3; have q4 := cell_later hSw c4; have q5 := cell_later hSw c5; have q6 := cell_later hSw c6; have q7 := cell_later hSw d1); go_simp; try with_reducible rfl)
        try simp only [Act.put, List.setIfInBounds_toArray, List.set_cons_zero, List.set_cons_succ]
        refine wpAnyHE_takeP (i := 5) (oi := { dst := some 24, op := Op.move (Operand.tmp 0), type := 50, pos := "mapper.go:92", after := #[], guard := none }) (v := ?_) rfl (by kernel_rfl) (by kernel_rfl) (by kernel_rfl) (fun _ _ _ h => h) (Or.inl ⟨by rfl, ?_⟩) ?_
        rotate_left
        · (intro w _; go_simp; try with_reducible rfl)
        try simp only [Act.put, List.setIfInBounds_toArray, List.set_cons_zero, List.set_cons_succ]
        refine wpAnyHE_takeP (i := 6) (oi := { dst := some 25, op := Op.nilCheck (Operand.tmp 24), type := 0, pos := "mapper.go:92", after := #[{ on := 5, ground := Ground.data }], guard := none }) (v := ?_) rfl (by kernel_rfl) (by kernel_rfl) (by kernel_rfl) (fun _ _ _ h => h) (Or.inl ⟨by rfl, ?_⟩) ?_
        rotate_left
        · (intro w _; go_simp; try with_reducible rfl)
        try simp only [Act.put, List.setIfInBounds_toArray, List.set_cons_zero, List.set_cons_succ]
        refine wpAnyHE_takeP (i := 7) (oi := { dst := some 26, op := Op.fieldAddr 104 (Operand.tmp 25) 0, type := 0, pos := "mapper.go:92", after := #[{ on := 6, ground := Ground.data }], guard := none }) (v := ?_) rfl (by kernel_rfl) (by kernel_rfl) (by kernel_rfl) (fun _ _ _ h => h) (Or.inl ⟨by rfl, ?_⟩) ?_
        rotate_left
        · (intro w _; go_simp; try with_reducible rfl)
        try simp only [Act.put, List.setIfInBounds_toArray, List.set_cons_zero, List.set_cons_succ]
        refine wpAnyHE_take (i := 8) (oi := { dst := some 27, op := Op.load 24 (Operand.tmp 26), type := 24, pos := "mapper.go:92", after := #[{ on := 7, ground := Ground.data }], guard := none }) (v := ?_) [[19, 8], [8], [8], [8]] rfl (by kernel_rfl) (by kernel_rfl) (by kernel_rfl) (by kernel_rfl) (by kernel_rfl) (fun _ _ _ h => h) (Or.inl ⟨by rfl, ?_⟩) (by assumption) ?_
        rotate_left
        · (intro w hSw; (try dsimp only at hSw); (have q0 := cell_later hSw c0; have q1 := cell_later hSw c1; have q2 := cell_later hSw c2; have q3 := cell_later hSw c3; have q4 := cell_later hSw c4; have q5 := cell_later hSw c5; have q6 := cell_later hSw c6; have q7 := cell_later hSw d1); go_simp; try with_reducible rfl)
        try simp only [Act.put, List.setIfInBounds_toArray, List.set_cons_zero, List.set_cons_succ]
        refine wpAnyHE_takeP (i := 9) (oi := { dst := some 28, op := Op.move (Operand.tmp 0), type := 50, pos := "mapper.go:92", after := #[], guard := none }) (v := ?_) rfl (by kernel_rfl) (by kernel_rfl) (by kernel_rfl) (fun _ _ _ h => h) (Or.inl ⟨by rfl, ?_⟩) ?_
        rotate_left
        · (intro w _; go_simp; try with_reducible rfl)
        try simp only [Act.put, List.setIfInBounds_toArray, List.set_cons_zero, List.set_cons_succ]
        refine wpAnyHE_takeP (i := 10) (oi := { dst := some 29, op := Op.nilCheck (Operand.tmp 28), type := 0, pos := "mapper.go:92", after := #[{ on := 9, ground := Ground.data }], guard := none }) (v := ?_) rfl (by kernel_rfl) (by kernel_rfl) (by kernel_rfl) (fun _ _ _ h => h) (Or.inl ⟨by rfl, ?_⟩) ?_
        rotate_left
        · (intro w _; go_simp; try with_reducible rfl)
        try simp only [Act.put, List.setIfInBounds_toArray, List.set_cons_zero, List.set_cons_succ]
        refine wpAnyHE_takeP (i := 11) (oi := { dst := some 30, op := Op.fieldAddr 104 (Operand.tmp 29) 1, type := 0, pos := "mapper.go:92", after := #[{ on := 10, ground := Ground.data }], guard := none }) (v := ?_) rfl (by kernel_rfl) (by kernel_rfl) (by kernel_rfl) (fun _ _ _ h => h) (Or.inl ⟨by rfl, ?_⟩) ?_
        rotate_left
        · (intro w _; go_simp; try with_reducible rfl)
        try simp only [Act.put, List.setIfInBounds_toArray, List.set_cons_zero, List.set_cons_succ]
        refine wpAnyHE_take (i := 12) (oi := { dst := some 31, op := Op.load 42 (Operand.tmp 30), type := 42, pos := "mapper.go:92", after := #[{ on := 11, ground := Ground.data }], guard := none }) (v := ?_) [[19, 18, 17, 12], [12], [12], [12]] rfl (by kernel_rfl) (by kernel_rfl) (by kernel_rfl) (by kernel_rfl) (by kernel_rfl) (fun _ _ _ h => h) (Or.inl ⟨by rfl, ?_⟩) (by assumption) ?_
        rotate_left
        · (intro w hSw; (try dsimp only at hSw); (have q0 := cell_later hSw c0; have q1 := cell_later hSw c1; have q2 := cell_later hSw c2; have q3 := cell_later hSw c3; have q4 := cell_later hSw c4; have q5 := cell_later hSw c5; have q6 := cell_later hSw c6; have q7 := cell_later hSw d1); go_simp; try with_reducible rfl)
        try simp only [Act.put, List.setIfInBounds_toArray, List.set_cons_zero, List.set_cons_succ]
        refine wpAnyHE_takeP (i := 13) (oi := { dst := some 32, op := Op.move (Operand.tmp 0), type := 50, pos := "mapper.go:92", after := #[], guard := none }) (v := ?_) rfl (by kernel_rfl) (by kernel_rfl) (by kernel_rfl) (fun _ _ _ h => h) (Or.inl ⟨by rfl, ?_⟩) ?_
        rotate_left
        · (intro w _; go_simp; try with_reducible rfl)
        try simp only [Act.put, List.setIfInBounds_toArray, List.set_cons_zero, List.set_cons_succ]
        refine wpAnyHE_takeP (i := 14) (oi := { dst := some 33, op := Op.nilCheck (Operand.tmp 32), type := 0, pos := "mapper.go:92", after := #[{ on := 13, ground := Ground.data }], guard := none }) (v := ?_) rfl (by kernel_rfl) (by kernel_rfl) (by kernel_rfl) (fun _ _ _ h => h) (Or.inl ⟨by rfl, ?_⟩) ?_
        rotate_left
        · (intro w _; go_simp; try with_reducible rfl)
        try simp only [Act.put, List.setIfInBounds_toArray, List.set_cons_zero, List.set_cons_succ]
        refine wpAnyHE_takeP (i := 15) (oi := { dst := some 34, op := Op.fieldAddr 104 (Operand.tmp 33) 2, type := 0, pos := "mapper.go:92", after := #[{ on := 14, ground := Ground.data }], guard := none }) (v := ?_) rfl (by kernel_rfl) (by kernel_rfl) (by kernel_rfl) (fun _ _ _ h => h) (Or.inl ⟨by rfl, ?_⟩) ?_
        rotate_left
        · (intro w _; go_simp; try with_reducible rfl)
        try simp only [Act.put, List.setIfInBounds_toArray, List.set_cons_zero, List.set_cons_succ]
        refine wpAnyHE_take (i := 16) (oi := { dst := some 35, op := Op.load 3 (Operand.tmp 34), type := 3, pos := "mapper.go:92", after := #[{ on := 15, ground := Ground.data }], guard := none }) (v := ?_) [[19, 18, 17, 16], [16], [16], [16]] rfl (by kernel_rfl) (by kernel_rfl) (by kernel_rfl) (by kernel_rfl) (by kernel_rfl) (fun _ _ _ h => h) (Or.inl ⟨by rfl, ?_⟩) (by assumption) ?_
        rotate_left
        · (intro w hSw; (try dsimp only at hSw); (have q0 := cell_later hSw c0; have q1 := cell_later hSw c1; have q2 := cell_later hSw c2; have q3 := cell_later hSw c3; have q4 := cell_later hSw c4; have q5 := cell_later hSw c5; have q6 := cell_later hSw c6; have q7 := cell_later hSw d1); go_simp; try with_reducible rfl)
        try simp only [Act.put, List.setIfInBounds_toArray, List.set_cons_zero, List.set_cons_succ]
        refine wpAnyHE_take (i := 17) (oi := { dst := some 36, op := Op.indexAddr 42 (Operand.tmp 31) (Operand.tmp 35), type := 0, pos := "mapper.go:92", after := #[{ on := 12, ground := Ground.data }, { on := 16, ground := Ground.data }], guard := none }) (v := ?_) [[19, 18, 17], [17], [17], [17]] rfl (by kernel_rfl) (by kernel_rfl) (by kernel_rfl) (by kernel_rfl) (by kernel_rfl) (fun _ _ _ h => h) (Or.inl ⟨by rfl, ?_⟩) (by assumption) ?_
        rotate_left
        · (intro w hSw; (try dsimp only at hSw); (have q0 := cell_later hSw c0; have q1 := cell_later hSw c1; have q2 := cell_later hSw c2; have q3 := cell_later hSw c3; have q4 := cell_later hSw c4; have q5 := cell_later hSw c5; have q6 := cell_later hSw c6; have q7 := cell_later hSw d1); go_simp; try with_reducible rfl)
        try simp only [Act.put, List.setIfInBounds_toArray, List.set_cons_zero, List.set_cons_succ]
        refine wpAnyHE_take (i := 18) (oi := { dst := some 37, op := Op.load 9 (Operand.tmp 36), type := 9, pos := "mapper.go:92", after := #[{ on := 17, ground := Ground.data }], guard := none }) (v := ?_) [[19, 18], [18], [18], [18]] rfl (by kernel_rfl) (by kernel_rfl) (by kernel_rfl) (by kernel_rfl) (by kernel_rfl) (fun _ _ _ h => h) (Or.inl ⟨by rfl, ?_⟩) (by assumption) ?_
        rotate_left
        · (intro w hSw; (try dsimp only at hSw); (have q0 := cell_later hSw c0; have q1 := cell_later hSw c1; have q2 := cell_later hSw c2; have q3 := cell_later hSw c3; have q4 := cell_later hSw c4; have q5 := cell_later hSw c5; have q6 := cell_later hSw c6; have q7 := cell_later hSw d1); go_simp; try with_reducible rfl)
        try simp only [Act.put, List.setIfInBounds_toArray, List.set_cons_zero, List.set_cons_succ]
        refine wpAnyHE_ready (rs := [19]) (by kernel_rfl) (by simp) ?_
        refine AllReadyE.cons (o := { dst := some 38, op := Op.call { callee := Callee.value (Operand.func 25), args := #[Operand.tmp 27, Operand.tmp 37], argTypes := #[24, 9] }, type := 53, pos := "mapper.go:92", after := #[{ on := 8, ground := Ground.data }, { on := 18, ground := Ground.data }], guard := none }) rfl (fun KH hKH => ?_) AllReadyE.nil
        go_simp
        (go_at_call 25; refine (HP.out _ hHeld).mono ?_; rintro e w1 ⟨v1, rfl, o1, b1⟩; obtain ⟨pa, pc, rfl⟩ := id o1.1)
        try go_wp2_with fail
        refine hKH.out _ _ ?_ (fun hNew => ?_)
        · (first | exact (Below.refl _ _).drew | exact hHeld.trans (b1.mono hHeld.size))
        clear hKH KH hHeld
        have hHeld := hNew
        clear hNew
        try simp only [Act.put, List.setIfInBounds_toArray, List.set_cons_zero, List.set_cons_succ]
        refine wpAnyHE_ready (rs := [20]) (by kernel_rfl) (by simp) ?_
        refine AllReadyE.consE (o := { dst := some 39, op := Op.call { callee := Callee.builtin Builtin.append, args := #[Operand.tmp 23, Operand.tmp 38], argTypes := #[53, 53] }, type := 53, pos := "mapper.go:92", after := #[{ on := 4, ground := Ground.data }, { on := 19, ground := Ground.data }, { on := 19, ground := Ground.chain }], guard := none }) rfl (by kernel_rfl) (fun KH hKH => ?_) AllReadyE.nil
        refine step_append_any encP_len _ _ 53 i0 _ rfl rfl Tryz.underlying53 hi0 hz0 hz1 hz2 rfl (by decide) (by decide) (HR2.out.own.later hHeld) (Below.refl _ _) (Nat.le_trans HBW.out hHeld.size) _ HLN.out rfl pa pc _ rfl rfl o1.cap0 (o1.sl encP_len) (one_flat one_pair) ?_
        intro v' w2 ho hb2 hgr hat
        have hst := mstep_next HR2.out HLK.out hHeld ho hgr hat HV.out HK2.out
        obtain ⟨na, nc, rfl⟩ := id ho.1
        have s5 := hst.2.get (j := 5) rfl
        have s6 := hst.2.get (j := 6) rfl
        have y5 := hst.2.fz 5
        have y6 := hst.2.fz 6
        have hs1 := hst.1
        simp only [List.length_append] at hs1
        have HST := hide hs1
        clear ho hb2 hgr hat hst hs1 o1 b1 c0 c1 c2 c3 c4 c5 c6 d1 HP
        refine hKH.out _ _ ?_
        clear hKH KH
        try clear hHeld
        try simp only [Act.put, List.setIfInBounds_toArray, List.set_cons_zero, List.set_cons_succ]
        refine wpAnyHE_ready (rs := [21]) (by kernel_rfl) (by simp) ?_
        refine AllReadyE.consE (o := { dst := some 40, op := Op.nilCheck (Operand.tmp 19), type := 0, pos := "mapper.go:92", after := #[{ on := 0, ground := Ground.data }, { on := 0, ground := Ground.phase }, { on := 1, ground := Ground.phase }, { on := 2, ground := Ground.phase }, { on := 3, ground := Ground.phase }, { on := 4, ground := Ground.phase }, { on := 5, ground := Ground.phase }, { on := 6, ground := Ground.phase }, { on := 7, ground := Ground.phase }, { on := 8, ground := Ground.phase }, { on := 9, ground := Ground.phase }, { on := 10, ground := Ground.phase }, { on := 11, ground := Ground.phase }, { on := 12, ground := Ground.phase }, { on := 13, ground := Ground.phase }, { on := 14, ground := Ground.phase }, { on := 15, ground := Ground.phase }, { on := 16, ground := Ground.phase }, { on := 17, ground := Ground.phase }, { on := 18, ground := Ground.phase }, { on := 19, ground := Ground.phase }, { on := 20, ground := Ground.phase }], guard := none }) rfl (by kernel_rfl) (fun KH hKH => ?_) AllReadyE.nil
        go_simp
        refine hKH.out _ _ ?_
        clear hKH KH
        try clear hHeld
        try simp only [Act.put, List.setIfInBounds_toArray, List.set_cons_zero, List.set_cons_succ]
        refine wpAnyHE_ready (rs := [22]) (by kernel_rfl) (by simp) ?_
        refine AllReadyE.consE (o := { dst := some 41, op := Op.fieldAddr 104 (Operand.tmp 40) 3, type := 0, pos := "mapper.go:92", after := #[{ on := 21, ground := Ground.data }, { on := 0, ground := Ground.phase }, { on := 1, ground := Ground.phase }, { on := 2, ground := Ground.phase }, { on := 3, ground := Ground.phase }, { on := 4, ground := Ground.phase }, { on := 5, ground := Ground.phase }, { on := 6, ground := Ground.phase }, { on := 7, ground := Ground.phase }, { on := 8, ground := Ground.phase }, { on := 9, ground := Ground.phase }, { on := 10, ground := Ground.phase }, { on := 11, ground := Ground.phase }, { on := 12, ground := Ground.phase }, { on := 13, ground := Ground.phase }, { on := 14, ground := Ground.phase }, { on := 15, ground := Ground.phase }, { on := 16, ground := Ground.phase }, { on := 17, ground := Ground.phase }, { on := 18, ground := Ground.phase }, { on := 19, ground := Ground.phase }, { on := 20, ground := Ground.phase }], guard := none }) rfl (by kernel_rfl) (fun KH hKH => ?_) AllReadyE.nil
        go_simp
        refine hKH.out _ _ ?_
        clear hKH KH
        try clear hHeld
        try simp only [Act.put, List.setIfInBounds_toArray, List.set_cons_zero, List.set_cons_succ]
        refine wpAnyHE_ready (rs := [23]) (by kernel_rfl) (by simp) ?_
        refine AllReadyE.consE (o := { dst := none, op := Op.store 53 (Operand.tmp 41) (Operand.tmp 39), type := 0, pos := "mapper.go:92", after := #[{ on := 22, ground := Ground.data }, { on := 20, ground := Ground.data }, { on := 20, ground := Ground.chain }, { on := 0, ground := Ground.phase }, { on := 1, ground := Ground.phase }, { on := 2, ground := Ground.phase }, { on := 3, ground := Ground.phase }, { on := 4, ground := Ground.phase }, { on := 5, ground := Ground.phase }, { on := 6, ground := Ground.phase }, { on := 7, ground := Ground.phase }, { on := 8, ground := Ground.phase }, { on := 9, ground := Ground.phase }, { on := 10, ground := Ground.phase }, { on := 11, ground := Ground.phase }, { on := 12, ground := Ground.phase }, { on := 13, ground := Ground.phase }, { on := 14, ground := Ground.phase }, { on := 15, ground := Ground.phase }, { on := 16, ground := Ground.phase }, { on := 17, ground := Ground.phase }, { on := 18, ground := Ground.phase }, { on := 19, ground := Ground.phase }, { on := 20, ground := Ground.phase }], guard := none }) rfl (by kernel_rfl) (fun KH hKH => ?_) AllReadyE.nil
        go_simp
        refine hKH.out _ _ ?_
        clear hKH KH
        try clear hHeld
        try simp only [Act.put, List.setIfInBounds_toArray, List.set_cons_zero, List.set_cons_succ]
        refine wpAnyHE_done (by kernel_rfl) ?_ _
        refine NoPanic.normal ?_
        go_wp2
        go_roundw
        case rel => exact ⟨j + 1, n' + 1, _, by omega, by go_num, HNX.out, HST.out.1, HST.out.2.1, HST.out.2.2⟩
        case measure => (simp [intOf]; try omega)
    · have hdM : j = M := by omega
      subst hdM
      have e3 : decide (j < j) = false := by simp
      have e3' : decide ((j : Int) < (j : Int)) = false := by simp
      have HMI : Hid (n' = min (n + j) lines.length) := HN.out
      obtain ⟨db, hdb⟩ : ∃ db, decide (n' = lines.length) = db := ⟨_, rfl⟩
      have HDB := hide hdb
      have e1 : ((n' : Int) == (lines.length : Int)) = db := by
        rw [← hdb]
        by_cases h : n' = lines.length
        · simp [h]
        · have : ¬ (n' : Int) = (lines.length : Int) := by omega
          simp [h, this]
      have e1' : (n' == lines.length) = db := by rw [← hdb]; rfl
      clear hdb hva
      go_wp2_with fail
      go_quiet (fail)
      go_wp2_with fail
      go_ret
      exact mstep_end HMI.out HDB.out HR.out HV.out HK.out _
end Go.Proofs.YtgeedjlbajmdkaaGreatDoor
