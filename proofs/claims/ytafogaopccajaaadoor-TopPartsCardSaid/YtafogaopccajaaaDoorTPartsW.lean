/- TopParts: the law's walk. -/
import Derived.Test.YtafogaopccajaaaDoorTSlicesW
import Derived.Test.YtafogaopccajaaaDoorMRunV
import Derived.Test.YtafogaopccajaaaDoorMerge
import Derived.Test.YtafogaopccajaaaDoorFolder3
set_option linter.unusedSimpArgs false
set_option linter.unusedVariables false
namespace Go.Proofs.YtafogaopccajaaaDoor
open Go.RowKit

/-- two parts' slices, merged, are the slices of both -/
theorem slice_parts {fold : Int} {many k : Nat} {A B : List Pr} {a b c : List Pr} (hk : k < many) (ha : (cutP fold false many A)[k]? = some a) (hb : (cutP fold false many B)[k]? = some b) (hc : (cutP fold false many (A ++ B))[k]? = some c) : srt ([a, b] : List (List Pr)).flatten = c := by
  rw [cutP_get hk, if_neg (by simp)] at ha hb hc
  obtain rfl := Option.some.inj ha
  obtain rfl := Option.some.inj hb
  obtain rfl := Option.some.inj hc
  rw [List.filter_append]
  simp only [List.flatten_cons, List.flatten_nil, List.append_nil]
  exact srt_congr ((srt_same _).append (srt_same _))
theorem Sl.dropA {α : Type} {enc : α → List Value} {w : World} {a : Addr} {l : List α} (h : Sl 1 enc w (some a) l) (k : Nat) : Sl 1 enc w (some (a.add k)) (l.drop k) := by
  intro h0
  obtain ⟨b, off, e, _, _⟩ := h (by rw [List.length_drop] at h0; omega)
  cases e
  have h2 := Sl.dropK (b := b) (off := off) h k h0
  rw [Nat.mul_one] at h2
  rw [add_at _ _ _ _ rfl]
  exact h2
set_option maxRecDepth 100000 in
set_option maxHeartbeats 4000000 in
theorem TopParts_walk (ro : Option Addr) (rc : Nat) (rs : List RuleR) (fold slices : Int) (early : Bool) (lo : Option Addr) (lc : Nat) (lines : List ByteArray) (at_ : Int) (w : World) (hg : GM w) (hj : JobIn w ro rc rs fold slices) (hll : lines.length ≤ maxLen) (hs : Sl 1 encS w lo lines) (hn : lo = none → lc = 0) (hcap : lines.length ≤ lc ∧ lc ≤ maxLen) :
    Calls Tryd.prog 6 #[.agg #[.slice ro rs.length rc, .int .i64 fold, .bool early, .int .i64 slices], .slice lo lines.length lc, .int .i64 at_] w fun e w' => e = .returned (.bool true) ∧ Below w.heap.size w w' := by
  obtain ⟨W1, hW1⟩ : ∃ W, W = w.alloc (.cells #[.slice ro rs.length rc, .int .i64 fold, .bool early, .int .i64 slices] 24) := ⟨_, rfl⟩
  have hb1 : Below w.heap.size w W1 := by rw [hW1]; exact (Below.refl _ _).alloc (Nat.le_refl _) _
  have hbj : Bk W1 w.heap.size [.slice ro rs.length rc, .int .i64 fold, .bool early, .int .i64 slices] := by rw [hW1]; exact Bk.new rfl
  have hrl := hj.len
  unfold maxLen at hrl hll hcap
  have HJ := hide hj
  have HG := hide hg
  have HS := hide hs
  have HN := hide hn
  have HB := hide hb1
  have HBJ := hide hbj
  have HW1 := hide hW1
  have HLJ := hide fun w' (hb : Below w.heap.size w w') => LightJob_any ro rc rs fold slices early w' hj.len (hj.sl.later hb (Nat.le_refl _)) fun r hr => by obtain ⟨d, h⟩ := hj.at_ r hr; exact ⟨d, h.later hb (Nat.le_refl _)⟩
  have HJC := hide fun w' (hb : Below w.heap.size w w') => jobCheck_any ro rc rs fold slices early w' hj.len (hj.sl.later hb (Nat.le_refl _)) fun r hr => by obtain ⟨d, h⟩ := hj.at_ r hr; exact ⟨d, h.later hb (Nat.le_refl _)⟩
  have HLT := hide fun w' (hb : Below w.heap.size w w') => LightTexts_any lo lc lines 60 120 w' (by unfold maxLen; omega) (hs.later hb (Nat.le_refl _))
  unfold SomeB at HLJ
  clear hb1 hbj hW1 hg hj hs hn
  go_enter Tryd.func6, Tryd.ntmps6
  go_upto_region 1 with (fail)
  rw [← HW1.out]
  clear HW1
  go_upto_region 2 with (fail)
  have hW : W1.alloc (.cells (encRule ruleLM).toArray 38) = W1.alloc (.cells #[.bool false, .int .i64 0, .int .i64 0, .int .i64 0, .string ⟨#[]⟩, .slice none 0 0, .string ⟨#[]⟩, .int .i64 2, .int .i64 0, .string ⟨#[]⟩, .slice none 0 0, .int .i64 9, .int .i64 0, .string ⟨#[]⟩, .slice none 0 0] 38) := rfl
  rw [← hW]
  clear hW
  have hb2 : Below W1.heap.size W1 (W1.alloc (.cells (encRule ruleLM).toArray 38)) := (Below.refl _ _).alloc (Nat.le_refl _) _
  have hs2 : Sl 15 encRule (W1.alloc (.cells (encRule ruleLM).toArray 38)) (some ⟨W1.heap.size, 0, none⟩) [ruleLM] := Sl.lit encRule_len (heap_new W1 _) rfl
  have hz2 : (W1.alloc (.cells (encRule ruleLM).toArray 38)).heap.size = W1.heap.size + 1 := by simp
  obtain ⟨rb, hrb⟩ : ∃ rb, W1.heap.size = rb := ⟨_, rfl⟩
  replace HB := hide (HB.out.trans (hb2.mono HB.out.size))
  replace HBJ := hide (HBJ.out.later hb2)
  generalize W1.alloc (.cells (encRule ruleLM).toArray 38) = W2 at *
  rw [hrb] at hs2 hz2 ⊢
  clear hb2 hrb
  have hb3 : Below W2.heap.size W2 (W2.alloc (.cells #[.slice (some ⟨rb, 0, none⟩) 1 1, .int .i64 1, .bool false, .int .i64 1] 24)) := (Below.refl _ _).alloc (Nat.le_refl _) _
  have hbp : Bk (W2.alloc (.cells #[.slice (some ⟨rb, 0, none⟩) 1 1, .int .i64 1, .bool false, .int .i64 1] 24)) W2.heap.size [.slice (some ⟨rb, 0, none⟩) 1 1, .int .i64 1, .bool false, .int .i64 1] := Bk.new rfl
  have HS3 := hide (hs2.later hb3 (Nat.le_refl _))
  replace HB := hide (HB.out.trans (hb3.mono HB.out.size))
  replace HBJ := hide (HBJ.out.later hb3)
  rw [← hz2]
  generalize W2.alloc (.cells #[.slice (some ⟨rb, 0, none⟩) 1 1, .int .i64 1, .bool false, .int .i64 1] 24) = W3 at *
  have HP := hide (Pairs_any (some ⟨rb, 0, none⟩) 1 [ruleLM] 1 1 false ⟨#[97, 32, 98]⟩ 1 W3 (HG.out.later HB.out (Nat.le_refl _)) (by decide) (by decide) HS3.out (fun r hr => by rw [List.mem_singleton.1 hr]; exact ruleLM_at _) (fun r hr => by rw [List.mem_singleton.1 hr]; exact ruleLM_ok))
  rw [show ([ruleLM].map RuleR.v) = [ruleLM.v] from rfl, ruleLM_made] at HP
  have p0 := hbp.get (j := 0) rfl
  have p1 := hbp.get (j := 1) rfl
  have p2 := hbp.get (j := 2) rfl
  have p3 := hbp.get (j := 3) rfl
  clear hs2 hz2 hb3 hbp HS3
  go_wp2_with fail
  refine HP.out.mono ?_
  rintro e w2 ⟨pv, rfl, op, b2⟩
  obtain ⟨pa, pc, rfl⟩ := id op.1
  replace HB := hide (HB.out.trans (b2.mono HB.out.size))
  replace HBJ := hide (HBJ.out.later b2)
  clear HP p0 p1 p2 p3 op b2
  have j0 := HBJ.out.get (j := 0) rfl
  have j1 := HBJ.out.get (j := 1) rfl
  have j2 := HBJ.out.get (j := 2) rfl
  have j3 := HBJ.out.get (j := 3) rfl
  go_wp2_with fail
  refine (HLJ.out _ HB.out).mono ?_
  rintro e w3 ⟨⟨b, rfl⟩, b3⟩
  replace j0 := cell_later b3 j0
  replace j1 := cell_later b3 j1
  replace j2 := cell_later b3 j2
  replace j3 := cell_later b3 j3
  replace HB := hide (HB.out.trans (b3.mono HB.out.size))
  replace HBJ := hide (HBJ.out.later b3)
  clear b3 HLJ
  cases b with
  | false =>
    clear HLT HJC
    go_wp2
    go_ret
    exact ⟨rfl, HB.out⟩
  | true =>
  obtain ⟨lt, hlt⟩ : ∃ lt, lightTexts lines 60 120 = lt := ⟨_, rfl⟩
  have HLTX := hide hlt
  rw [hlt] at HLT
  clear hlt
  go_wp2_with fail
  refine (HLT.out _ HB.out).mono ?_
  rintro e w3' ⟨rfl, rfl⟩
  clear HLT
  cases lt with
  | false =>
    clear HJC
    go_wp2
    go_ret
    exact ⟨rfl, HB.out⟩
  | true =>
  obtain ⟨jf, hjf⟩ : ∃ jf, jobF (rs.map RuleR.v) fold slices = jf := ⟨_, rfl⟩
  have HJF := hide hjf
  rw [hjf] at HJC
  clear hjf
  go_wp2_with fail
  refine (HJC.out _ HB.out).mono ?_
  rintro e w4 ⟨rfl, b4⟩
  replace j0 := cell_later b4 j0
  replace j1 := cell_later b4 j1
  replace j2 := cell_later b4 j2
  replace j3 := cell_later b4 j3
  replace HB := hide (HB.out.trans (b4.mono HB.out.size))
  replace HBJ := hide (HBJ.out.later b4)
  clear b4 HJC
  have HJL : Hid (w.heap.size < w4.heap.size) := HBJ.out.lt
  by_cases hj0 : jf = 0
  case neg =>
    rw [errV_pos hj0]
    go_wp2
    go_ret
    exact ⟨rfl, HB.out⟩
  subst hj0
  rw [errV_zero]
  have HOK := hide (JobOk.of HJF.out)
  obtain ⟨many, hmany⟩ : ∃ many : Nat, slices = (many : Int) := ⟨slices.toNat, by have := HOK.out.slices; omega⟩
  subst hmany
  have hm4 : 1 ≤ many ∧ many ≤ 4 := by have := HOK.out.slices; omega
  have hrn : rs.length ≤ 4 := HOK.out.many.2
  have hl60 : lines.length ≤ 60 := by have := (lightTexts_of HLTX.out).1; omega
  have HLS : Hid (∀ l ∈ lines, l.size ≤ 500) := fun l hl => by have := (lightTexts_of HLTX.out).2 l hl; omega
  obtain ⟨d, hd⟩ := rules_deep HJ.out.at_
  have HJA := hide fun (w' : World) (hb : Below w.heap.size w w') => (⟨HJ.out.sl.later hb (Nat.le_refl _), fun r hr => (hd r hr).later hb (Nat.le_refl _)⟩ : JobAt w' ro rs d)
  clear hd
  have z2 := HBJ.out.fz 2
  go_upto_region 7 with (fail)
  have HBJ5 : Hid (Bk (w4.setCell ⟨w.heap.size, 2, none⟩ (.bool false)) w.heap.size [.slice ro rs.length rc, .int .i64 fold, .bool false, .int .i64 many]) := HBJ.out.set (k := 2) (u := .bool early) (.bool false) rfl
  have HB5 := hide (HB.out.setCell (p := ⟨w.heap.size, 2, none⟩) (Nat.le_refl _) (.bool false))
  clear HBJ HB j0 j1 j2 j3 z2 HJL
  generalize w4.setCell ⟨w.heap.size, 2, none⟩ (.bool false) = W5 at *
  go_upto_if 44 with (fail)
  go_cut [8] from 45 to 49 (fun v wc => ∃ kk : Nat, v = .int .i64 kk ∧ kk ≤ lines.length ∧ W5 = wc)
  case first =>
    by_cases h0 : 0 < lines.length
    · have e1 : decide ((0 : Int) < (lines.length : Int)) = true := decide_eq_true (by omega)
      have e1' : decide (0 < lines.length) = true := decide_eq_true h0
      obtain ⟨m, hm⟩ : ∃ m : Nat, at_ % 1024 = (m : Int) := ⟨(at_ % 1024).toNat, by omega⟩
      have hand : bits .and .i64 at_ 1023 = (m : Int) := by rw [i64_and1023, hm]
      have hnz : ¬ lines.length = 0 := by omega
      obtain ⟨kk, hkk⟩ : ∃ kk, m % lines.length = kk := ⟨_, rfl⟩
      have hrem : (m : Int).tmod (lines.length : Int) = (kk : Int) := by rw [← Int.ofNat_tmod, hkk]
      have hkl : kk < lines.length := by rw [← hkk]; exact Nat.mod_lt _ h0
      have HKL := hide hkl
      clear hkk hm
      go_wp2
      go_meet
      exact ⟨kk, rfl, Nat.le_of_lt HKL.out, rfl⟩
    · have e1 : decide ((0 : Int) < (lines.length : Int)) = false := decide_eq_false (by omega)
      have e1' : decide (0 < lines.length) = false := decide_eq_false h0
      go_wp2
      go_meet
      exact ⟨0, rfl, Nat.zero_le _, rfl⟩
  case rest =>
  obtain ⟨kk, rfl, hkk, rfl⟩ := hcut
  have HKK := hide hkk
  have hcap2 : kk ≤ lc := by omega
  have HSA := hide (HS.out.takeK kk)
  have HLA : Hid ((lines.take kk).length = kk) := by show _ = _; rw [List.length_take]; omega
  have HLSA : Hid (∀ l ∈ lines.take kk, l.size ≤ 500) := fun l hl => HLS.out l (List.mem_of_mem_take hl)
  have HLSB : Hid (∀ l ∈ lines.drop kk, l.size ≤ 500) := fun l hl => HLS.out l (List.mem_of_mem_drop hl)
  have HLB : Hid ((lines.drop kk).length = lines.length - kk) := by show _ = _; rw [List.length_drop]
  have HNA : Hid (∀ w' : World, Below W5.heap.size W5 w' → Calls Tryd.prog 20 #[.agg #[.slice ro rs.length rc, .int .i64 fold, .bool false, .int .i64 many], .slice lo kk lc] w' fun e w'' => (∃ v, e = .returned (.tuple #[v, .nilIface]) ∧ MRunV w'' w'.heap.size ro rc rs fold many false (lines.take kk) 0 (fun q => w'.heap.size ≤ q ∧ q < w''.heap.size) v) ∧ Below w'.heap.size w' w'') := by
    intro w' hb
    have hbw := HB5.out.trans (hb.mono HB5.out.size)
    have h := MNew_run ro rc rs fold many false d lo lc (lines.take kk) w' (HJA.out w' hbw) (by unfold maxLen; omega) (HSA.out.later hbw (Nat.le_refl _)) HN.out HJF.out (by rw [HLA.out]; omega)
    rw [HLA.out] at h
    exact h
  have j0 := HBJ5.out.get (j := 0) rfl
  have j1 := HBJ5.out.get (j := 1) rfl
  have j2 := HBJ5.out.get (j := 2) rfl
  have j3 := HBJ5.out.get (j := 3) rfl
  go_upto_region 10 with (fail)
  go_cut [9, 10] from 50 to 57 (fun v ev wc => ev = .nilIface ∧ Hid (MRunV wc W5.heap.size ro rc rs fold many false (lines.take kk) 0 (fun q => W5.heap.size ≤ q ∧ q < wc.heap.size) v) ∧ Hid (Below W5.heap.size W5 wc))
  case first =>
    have f1 : (0 : Int) ≤ (kk : Int) ∧ (kk : Int) ≤ (lc : Int) := by omega
    obtain ⟨f1, f2⟩ := f1
    cases lo with
    | none =>
      obtain rfl : lc = 0 := HN.out rfl
      obtain rfl : kk = 0 := by omega
      refine wp_region_noPanic ?_
      refine wp_region_heldE_drew (S := (fun w' => Below W5.heap.size W5 w')) (E := [9]) (by kernel_rfl) ?_ (fun hHeld => ?_)
      · (first | exact (Below.refl _ _).drew | exact hHeld.trans (b1.mono hHeld.size) | exact hHeld)
      try dsimp only [List.size_toArray, List.length_cons, List.length_nil, Nat.reduceAdd]
      refine wpAnyHE_take (i := 0) (oi := { dst := some 51, op := Op.load 24 (Operand.tmp 3), type := 24, pos := "top.go:150", after := #[], guard := none }) (v := ?_) [[0]] rfl (by kernel_rfl) (by kernel_rfl) (by kernel_rfl) (by kernel_rfl) (by kernel_rfl) (fun _ _ _ h => h) (Or.inl ⟨by rfl, ?_⟩) (by assumption) ?_
      rotate_left
      · (intro w hSw; (try dsimp only at hSw); (have t0 := cell_later hSw j0; have t1 := cell_later hSw j1; have t2 := cell_later hSw j2; have t3 := cell_later hSw j3); go_simp; try with_reducible rfl)
      try simp only [Act.put, List.setIfInBounds_toArray, List.set_cons_zero, List.set_cons_succ]
      refine wpAnyHE_takeP (i := 1) (oi := { dst := some 52, op := Op.move (Operand.tmp 1), type := 40, pos := "top.go:150", after := #[], guard := none }) (v := ?_) rfl (by kernel_rfl) (by kernel_rfl) (by kernel_rfl) (fun _ _ _ h => h) (Or.inl ⟨by rfl, ?_⟩) ?_
      rotate_left
      · (intro w _; go_simp; try with_reducible rfl)
      try simp only [Act.put, List.setIfInBounds_toArray, List.set_cons_zero, List.set_cons_succ]
      refine wpAnyHE_takeP (i := 2) (oi := { dst := some 53, op := Op.move (Operand.tmp 8), type := 3, pos := "top.go:150", after := #[], guard := none }) (v := ?_) rfl (by kernel_rfl) (by kernel_rfl) (by kernel_rfl) (fun _ _ _ h => h) (Or.inl ⟨by rfl, ?_⟩) ?_
      rotate_left
      · (intro w _; go_simp; try with_reducible rfl)
      try simp only [Act.put, List.setIfInBounds_toArray, List.set_cons_zero, List.set_cons_succ]
      refine wpAnyHE_takeP (i := 3) (oi := { dst := some 54, op := Op.slice 40 (Operand.tmp 52) none (some (Operand.tmp 53)) none, type := 40, pos := "top.go:150", after := #[{ on := 1, ground := Ground.data }, { on := 2, ground := Ground.data }], guard := none }) (v := ?_) rfl (by kernel_rfl) (by kernel_rfl) (by kernel_rfl) (fun _ _ _ h => h) (Or.inl ⟨by rfl, ?_⟩) ?_
      rotate_left
      · (intro w _; go_simp; try with_reducible rfl)
      try simp only [Act.put, List.setIfInBounds_toArray, List.set_cons_zero, List.set_cons_succ]
      refine wpAnyHE_ready (rs := [4]) (by kernel_rfl) (by simp) ?_
      refine AllReadyE.cons (o := { dst := some 55, op := Op.call { callee := Callee.value (Operand.func 20), args := #[Operand.tmp 51, Operand.tmp 54], argTypes := #[24, 40] }, type := 47, pos := "top.go:150", after := #[{ on := 0, ground := Ground.data }, { on := 3, ground := Ground.data }], guard := none }) rfl (fun KH hKH => ?_) AllReadyE.nil
      go_simp
      (go_at_call 20; refine (HNA.out _ hHeld).mono ?_; rintro e w1 ⟨⟨v1, rfl, hr1⟩, b1⟩; obtain ⟨g1, rfl⟩ := hr1.ptr)
      try go_wp2_with fail
      refine hKH.out _ _ ?_ (fun hNew => ?_)
      · (first | exact (Below.refl _ _).drew | exact hHeld.trans (b1.mono hHeld.size) | exact hHeld)
      clear hKH KH hHeld
      have hHeld := hNew
      clear hNew
      try simp only [Act.put, List.setIfInBounds_toArray, List.set_cons_zero, List.set_cons_succ]
      refine wpAnyHE_takeP (i := 5) (oi := { dst := some 50, op := Op.move (Operand.tmp 55), type := 47, pos := "top.go:150", after := #[{ on := 4, ground := Ground.data }], guard := none }) (v := ?_) rfl (by kernel_rfl) (by kernel_rfl) (by kernel_rfl) (fun _ _ _ h => h) (Or.inl ⟨by rfl, ?_⟩) ?_
      rotate_left
      · (intro w _; go_simp; try with_reducible rfl)
      try simp only [Act.put, List.setIfInBounds_toArray, List.set_cons_zero, List.set_cons_succ]
      refine wpAnyHE_takeP (i := 6) (oi := { dst := some 56, op := Op.extract (Operand.tmp 50) 0, type := 46, pos := "top.go:150", after := #[{ on := 5, ground := Ground.data }], guard := none }) (v := ?_) rfl (by kernel_rfl) (by kernel_rfl) (by kernel_rfl) (fun _ _ _ h => h) (Or.inl ⟨by rfl, ?_⟩) ?_
      rotate_left
      · (intro w _; go_simp; try with_reducible rfl)
      try simp only [Act.put, List.setIfInBounds_toArray, List.set_cons_zero, List.set_cons_succ]
      refine wpAnyHE_takeP (i := 7) (oi := { dst := some 57, op := Op.extract (Operand.tmp 50) 1, type := 28, pos := "top.go:150", after := #[{ on := 5, ground := Ground.data }, { on := 8, ground := Ground.gcOnly Departure.lateStores }], guard := none }) (v := ?_) rfl (by kernel_rfl) (by kernel_rfl) (by kernel_rfl) (fun _ _ _ h => h) (Or.inl ⟨by rfl, ?_⟩) ?_
      rotate_left
      · (intro w _; go_simp; try with_reducible rfl)
      try simp only [Act.put, List.setIfInBounds_toArray, List.set_cons_zero, List.set_cons_succ]
      refine wpAnyHE_takeP (i := 8) (oi := { dst := some 9, op := Op.assign (Operand.tmp 56), type := 46, pos := "top.go:150", after := #[{ on := 6, ground := Ground.data }, { on := 4, ground := Ground.chain }, { on := 0, ground := Ground.phase }, { on := 1, ground := Ground.phase }, { on := 2, ground := Ground.phase }, { on := 3, ground := Ground.phase }, { on := 4, ground := Ground.phase }, { on := 5, ground := Ground.phase }, { on := 6, ground := Ground.phase }, { on := 7, ground := Ground.textOnly Departure.lateStores }], guard := none }) (v := ?_) rfl (by kernel_rfl) (by kernel_rfl) (by kernel_rfl) (fun _ _ _ h => h) (Or.inl ⟨by rfl, ?_⟩) ?_
      rotate_left
      · (intro w _; go_simp; try with_reducible rfl)
      try simp only [Act.put, List.setIfInBounds_toArray, List.set_cons_zero, List.set_cons_succ]
      refine wpAnyHE_ready (rs := [9]) (by kernel_rfl) (by simp) ?_
      refine AllReadyE.consE (o := { dst := some 10, op := Op.assign (Operand.tmp 57), type := 28, pos := "top.go:150", after := #[{ on := 7, ground := Ground.data }, { on := 8, ground := Ground.chain }, { on := 0, ground := Ground.phase }, { on := 1, ground := Ground.phase }, { on := 2, ground := Ground.phase }, { on := 3, ground := Ground.phase }, { on := 4, ground := Ground.phase }, { on := 5, ground := Ground.phase }, { on := 6, ground := Ground.phase }, { on := 7, ground := Ground.phase }, { on := 8, ground := Ground.phase }], guard := none }) rfl (by kernel_rfl) (fun KH hKH => ?_) AllReadyE.nil
      have HBX := hide hHeld
      go_simp
      refine hKH.out _ _ ?_
      clear hKH KH
      try clear hHeld
      try simp only [Act.put, List.setIfInBounds_toArray, List.set_cons_zero, List.set_cons_succ]
      refine wpAnyHE_done (by kernel_rfl) ?_ _
      refine NoPanic.normal ?_
      go_wp2
      go_meet
      exact ⟨rfl, hr1.more (fun q h => ⟨Nat.le_trans (by simp) h.1, h.2⟩), HBX⟩
    | some a =>
      refine wp_region_noPanic ?_
      refine wp_region_heldE_drew (S := (fun w' => Below W5.heap.size W5 w')) (E := [9]) (by kernel_rfl) ?_ (fun hHeld => ?_)
      · (first | exact (Below.refl _ _).drew | exact hHeld.trans (b1.mono hHeld.size) | exact hHeld)
      try dsimp only [List.size_toArray, List.length_cons, List.length_nil, Nat.reduceAdd]
      refine wpAnyHE_take (i := 0) (oi := { dst := some 51, op := Op.load 24 (Operand.tmp 3), type := 24, pos := "top.go:150", after := #[], guard := none }) (v := ?_) [[0]] rfl (by kernel_rfl) (by kernel_rfl) (by kernel_rfl) (by kernel_rfl) (by kernel_rfl) (fun _ _ _ h => h) (Or.inl ⟨by rfl, ?_⟩) (by assumption) ?_
      rotate_left
      · (intro w hSw; (try dsimp only at hSw); (have t0 := cell_later hSw j0; have t1 := cell_later hSw j1; have t2 := cell_later hSw j2; have t3 := cell_later hSw j3); go_simp; try with_reducible rfl)
      try simp only [Act.put, List.setIfInBounds_toArray, List.set_cons_zero, List.set_cons_succ]
      refine wpAnyHE_takeP (i := 1) (oi := { dst := some 52, op := Op.move (Operand.tmp 1), type := 40, pos := "top.go:150", after := #[], guard := none }) (v := ?_) rfl (by kernel_rfl) (by kernel_rfl) (by kernel_rfl) (fun _ _ _ h => h) (Or.inl ⟨by rfl, ?_⟩) ?_
      rotate_left
      · (intro w _; go_simp; try with_reducible rfl)
      try simp only [Act.put, List.setIfInBounds_toArray, List.set_cons_zero, List.set_cons_succ]
      refine wpAnyHE_takeP (i := 2) (oi := { dst := some 53, op := Op.move (Operand.tmp 8), type := 3, pos := "top.go:150", after := #[], guard := none }) (v := ?_) rfl (by kernel_rfl) (by kernel_rfl) (by kernel_rfl) (fun _ _ _ h => h) (Or.inl ⟨by rfl, ?_⟩) ?_
      rotate_left
      · (intro w _; go_simp; try with_reducible rfl)
      try simp only [Act.put, List.setIfInBounds_toArray, List.set_cons_zero, List.set_cons_succ]
      refine wpAnyHE_takeP (i := 3) (oi := { dst := some 54, op := Op.slice 40 (Operand.tmp 52) none (some (Operand.tmp 53)) none, type := 40, pos := "top.go:150", after := #[{ on := 1, ground := Ground.data }, { on := 2, ground := Ground.data }], guard := none }) (v := ?_) rfl (by kernel_rfl) (by kernel_rfl) (by kernel_rfl) (fun _ _ _ h => h) (Or.inl ⟨by rfl, ?_⟩) ?_
      rotate_left
      · (intro w _; go_simp; try with_reducible rfl)
      try simp only [Act.put, List.setIfInBounds_toArray, List.set_cons_zero, List.set_cons_succ]
      refine wpAnyHE_ready (rs := [4]) (by kernel_rfl) (by simp) ?_
      refine AllReadyE.cons (o := { dst := some 55, op := Op.call { callee := Callee.value (Operand.func 20), args := #[Operand.tmp 51, Operand.tmp 54], argTypes := #[24, 40] }, type := 47, pos := "top.go:150", after := #[{ on := 0, ground := Ground.data }, { on := 3, ground := Ground.data }], guard := none }) rfl (fun KH hKH => ?_) AllReadyE.nil
      go_simp
      (go_at_call 20; refine (HNA.out _ hHeld).mono ?_; rintro e w1 ⟨⟨v1, rfl, hr1⟩, b1⟩; obtain ⟨g1, rfl⟩ := hr1.ptr)
      try go_wp2_with fail
      refine hKH.out _ _ ?_ (fun hNew => ?_)
      · (first | exact (Below.refl _ _).drew | exact hHeld.trans (b1.mono hHeld.size) | exact hHeld)
      clear hKH KH hHeld
      have hHeld := hNew
      clear hNew
      try simp only [Act.put, List.setIfInBounds_toArray, List.set_cons_zero, List.set_cons_succ]
      refine wpAnyHE_takeP (i := 5) (oi := { dst := some 50, op := Op.move (Operand.tmp 55), type := 47, pos := "top.go:150", after := #[{ on := 4, ground := Ground.data }], guard := none }) (v := ?_) rfl (by kernel_rfl) (by kernel_rfl) (by kernel_rfl) (fun _ _ _ h => h) (Or.inl ⟨by rfl, ?_⟩) ?_
      rotate_left
      · (intro w _; go_simp; try with_reducible rfl)
      try simp only [Act.put, List.setIfInBounds_toArray, List.set_cons_zero, List.set_cons_succ]
      refine wpAnyHE_takeP (i := 6) (oi := { dst := some 56, op := Op.extract (Operand.tmp 50) 0, type := 46, pos := "top.go:150", after := #[{ on := 5, ground := Ground.data }], guard := none }) (v := ?_) rfl (by kernel_rfl) (by kernel_rfl) (by kernel_rfl) (fun _ _ _ h => h) (Or.inl ⟨by rfl, ?_⟩) ?_
      rotate_left
      · (intro w _; go_simp; try with_reducible rfl)
      try simp only [Act.put, List.setIfInBounds_toArray, List.set_cons_zero, List.set_cons_succ]
      refine wpAnyHE_takeP (i := 7) (oi := { dst := some 57, op := Op.extract (Operand.tmp 50) 1, type := 28, pos := "top.go:150", after := #[{ on := 5, ground := Ground.data }, { on := 8, ground := Ground.gcOnly Departure.lateStores }], guard := none }) (v := ?_) rfl (by kernel_rfl) (by kernel_rfl) (by kernel_rfl) (fun _ _ _ h => h) (Or.inl ⟨by rfl, ?_⟩) ?_
      rotate_left
      · (intro w _; go_simp; try with_reducible rfl)
      try simp only [Act.put, List.setIfInBounds_toArray, List.set_cons_zero, List.set_cons_succ]
      refine wpAnyHE_takeP (i := 8) (oi := { dst := some 9, op := Op.assign (Operand.tmp 56), type := 46, pos := "top.go:150", after := #[{ on := 6, ground := Ground.data }, { on := 4, ground := Ground.chain }, { on := 0, ground := Ground.phase }, { on := 1, ground := Ground.phase }, { on := 2, ground := Ground.phase }, { on := 3, ground := Ground.phase }, { on := 4, ground := Ground.phase }, { on := 5, ground := Ground.phase }, { on := 6, ground := Ground.phase }, { on := 7, ground := Ground.textOnly Departure.lateStores }], guard := none }) (v := ?_) rfl (by kernel_rfl) (by kernel_rfl) (by kernel_rfl) (fun _ _ _ h => h) (Or.inl ⟨by rfl, ?_⟩) ?_
      rotate_left
      · (intro w _; go_simp; try with_reducible rfl)
      try simp only [Act.put, List.setIfInBounds_toArray, List.set_cons_zero, List.set_cons_succ]
      refine wpAnyHE_ready (rs := [9]) (by kernel_rfl) (by simp) ?_
      refine AllReadyE.consE (o := { dst := some 10, op := Op.assign (Operand.tmp 57), type := 28, pos := "top.go:150", after := #[{ on := 7, ground := Ground.data }, { on := 8, ground := Ground.chain }, { on := 0, ground := Ground.phase }, { on := 1, ground := Ground.phase }, { on := 2, ground := Ground.phase }, { on := 3, ground := Ground.phase }, { on := 4, ground := Ground.phase }, { on := 5, ground := Ground.phase }, { on := 6, ground := Ground.phase }, { on := 7, ground := Ground.phase }, { on := 8, ground := Ground.phase }], guard := none }) rfl (by kernel_rfl) (fun KH hKH => ?_) AllReadyE.nil
      have HBX := hide hHeld
      go_simp
      refine hKH.out _ _ ?_
      clear hKH KH
      try clear hHeld
      try simp only [Act.put, List.setIfInBounds_toArray, List.set_cons_zero, List.set_cons_succ]
      refine wpAnyHE_done (by kernel_rfl) ?_ _
      refine NoPanic.normal ?_
      go_wp2
      go_meet
      exact ⟨rfl, hr1.more (fun q h => ⟨Nat.le_trans (by simp) h.1, h.2⟩), HBX⟩
  case rest =>
  obtain ⟨rfl, HRA, HBA⟩ := hcut
  clear HNA
  rename World => wA
  replace j0 := cell_later HBA.out j0
  replace j1 := cell_later HBA.out j1
  replace j2 := cell_later HBA.out j2
  replace j3 := cell_later HBA.out j3
  have hcap3 : lines.length ≤ lc := hcap.1
  have HSB : Hid (∀ a, lo = some a → Sl 1 encS w (if lc = kk then some a else some (a.add kk)) (lines.drop kk)) := fun a e => by
    have h := HS.out
    rw [e] at h
    split
    · have : lines.drop kk = [] := List.drop_eq_nil_of_le (by omega)
      rw [this]; exact Sl.nil
    · exact h.dropA kk
  have HNB : Hid (∀ (w' : World) (q : Option Addr) (qc : Nat), Below wA.heap.size wA w' → Sl 1 encS w q (lines.drop kk) → (q = none → qc = 0) → Calls Tryd.prog 20 #[.agg #[.slice ro rs.length rc, .int .i64 fold, .bool false, .int .i64 many], .slice q (lines.length - kk) qc] w' fun e w'' => (∃ v, e = .returned (.tuple #[v, .nilIface]) ∧ MRunV w'' w'.heap.size ro rc rs fold many false (lines.drop kk) 0 (fun q => w'.heap.size ≤ q ∧ q < w''.heap.size) v) ∧ Below w'.heap.size w' w'') := by
    intro w' q qc hb hq hqn
    have hbw := HB5.out.trans ((HBA.out.trans (hb.mono HBA.out.size)).mono HB5.out.size)
    have h := MNew_run ro rc rs fold many false d q qc (lines.drop kk) w' (HJA.out w' hbw) (by unfold maxLen; omega) (hq.later hbw (Nat.le_refl _)) hqn HJF.out (by rw [HLB.out]; omega)
    rw [HLB.out] at h
    exact h
  go_upto_region 11 with (fail)
  go_cut [11, 12] from 58 to 65 (fun v ev wc => ev = .nilIface ∧ Hid (MRunV wc wA.heap.size ro rc rs fold many false (lines.drop kk) 0 (fun q => wA.heap.size ≤ q ∧ q < wc.heap.size) v) ∧ Hid (Below wA.heap.size wA wc))
  case first =>
    have f1 : (0 : Int) ≤ (kk : Int) ∧ (kk : Int) ≤ (lines.length : Int) := by omega
    obtain ⟨f1, f2⟩ := f1
    cases lo with
    | none =>
      obtain rfl : lc = 0 := HN.out rfl
      obtain rfl : kk = 0 := by omega
      obtain rfl : lines = [] := List.length_eq_zero_iff.1 (by omega)
      have HNB0 : Hid (∀ w' : World, Below wA.heap.size wA w' → Calls Tryd.prog 20 #[.agg #[.slice ro rs.length rc, .int .i64 fold, .bool false, .int .i64 many], .slice none 0 0] w' fun e w'' => (∃ v, e = .returned (.tuple #[v, .nilIface]) ∧ MRunV w'' w'.heap.size ro rc rs fold many false [] 0 (fun q => w'.heap.size ≤ q ∧ q < w''.heap.size) v) ∧ Below w'.heap.size w' w'') := fun w' hb => HNB.out w' none 0 hb Sl.nil (fun _ => rfl)
      refine wp_region_noPanic ?_
      refine wp_region_heldE_drew (S := (fun w' => Below wA.heap.size wA w')) (E := [9]) (by kernel_rfl) ?_ (fun hHeld => ?_)
      · (first | exact (Below.refl _ _).drew | exact hHeld.trans (b1.mono hHeld.size) | exact hHeld)
      try dsimp only [List.size_toArray, List.length_cons, List.length_nil, Nat.reduceAdd]
      refine wpAnyHE_take (i := 0) (oi := { dst := some 59, op := Op.load 24 (Operand.tmp 3), type := 24, pos := "top.go:151", after := #[], guard := none }) (v := ?_) [[0]] rfl (by kernel_rfl) (by kernel_rfl) (by kernel_rfl) (by kernel_rfl) (by kernel_rfl) (fun _ _ _ h => h) (Or.inl ⟨by rfl, ?_⟩) (by assumption) ?_
      rotate_left
      · (intro w hSw; (try dsimp only at hSw); (have t0 := cell_later hSw j0; have t1 := cell_later hSw j1; have t2 := cell_later hSw j2; have t3 := cell_later hSw j3); go_simp; try with_reducible rfl)
      try simp only [Act.put, List.setIfInBounds_toArray, List.set_cons_zero, List.set_cons_succ]
      refine wpAnyHE_takeP (i := 1) (oi := { dst := some 60, op := Op.move (Operand.tmp 1), type := 40, pos := "top.go:151", after := #[], guard := none }) (v := ?_) rfl (by kernel_rfl) (by kernel_rfl) (by kernel_rfl) (fun _ _ _ h => h) (Or.inl ⟨by rfl, ?_⟩) ?_
      rotate_left
      · (intro w _; go_simp; try with_reducible rfl)
      try simp only [Act.put, List.setIfInBounds_toArray, List.set_cons_zero, List.set_cons_succ]
      refine wpAnyHE_takeP (i := 2) (oi := { dst := some 61, op := Op.move (Operand.tmp 8), type := 3, pos := "top.go:151", after := #[], guard := none }) (v := ?_) rfl (by kernel_rfl) (by kernel_rfl) (by kernel_rfl) (fun _ _ _ h => h) (Or.inl ⟨by rfl, ?_⟩) ?_
      rotate_left
      · (intro w _; go_simp; try with_reducible rfl)
      try simp only [Act.put, List.setIfInBounds_toArray, List.set_cons_zero, List.set_cons_succ]
      refine wpAnyHE_takeP (i := 3) (oi := { dst := some 62, op := Op.slice 40 (Operand.tmp 60) (some (Operand.tmp 61)) none none, type := 40, pos := "top.go:151", after := #[{ on := 1, ground := Ground.data }, { on := 2, ground := Ground.data }], guard := none }) (v := ?_) rfl (by kernel_rfl) (by kernel_rfl) (by kernel_rfl) (fun _ _ _ h => h) (Or.inl ⟨by rfl, ?_⟩) ?_
      rotate_left
      · (intro w _; go_simp; try with_reducible rfl)
      try simp only [Act.put, List.setIfInBounds_toArray, List.set_cons_zero, List.set_cons_succ]
      refine wpAnyHE_ready (rs := [4]) (by kernel_rfl) (by simp) ?_
      refine AllReadyE.cons (o := { dst := some 63, op := Op.call { callee := Callee.value (Operand.func 20), args := #[Operand.tmp 59, Operand.tmp 62], argTypes := #[24, 40] }, type := 47, pos := "top.go:151", after := #[{ on := 0, ground := Ground.data }, { on := 3, ground := Ground.data }], guard := none }) rfl (fun KH hKH => ?_) AllReadyE.nil
      go_simp
      (go_at_call 20; refine (HNB0.out _ hHeld).mono ?_; rintro e w1 ⟨⟨v1, rfl, hr1⟩, b1⟩; obtain ⟨g1, rfl⟩ := hr1.ptr)
      try go_wp2_with fail
      refine hKH.out _ _ ?_ (fun hNew => ?_)
      · (first | exact (Below.refl _ _).drew | exact hHeld.trans (b1.mono hHeld.size) | exact hHeld)
      clear hKH KH hHeld
      have hHeld := hNew
      clear hNew
      try simp only [Act.put, List.setIfInBounds_toArray, List.set_cons_zero, List.set_cons_succ]
      refine wpAnyHE_takeP (i := 5) (oi := { dst := some 58, op := Op.move (Operand.tmp 63), type := 47, pos := "top.go:151", after := #[{ on := 4, ground := Ground.data }], guard := none }) (v := ?_) rfl (by kernel_rfl) (by kernel_rfl) (by kernel_rfl) (fun _ _ _ h => h) (Or.inl ⟨by rfl, ?_⟩) ?_
      rotate_left
      · (intro w _; go_simp; try with_reducible rfl)
      try simp only [Act.put, List.setIfInBounds_toArray, List.set_cons_zero, List.set_cons_succ]
      refine wpAnyHE_takeP (i := 6) (oi := { dst := some 64, op := Op.extract (Operand.tmp 58) 0, type := 46, pos := "top.go:151", after := #[{ on := 5, ground := Ground.data }], guard := none }) (v := ?_) rfl (by kernel_rfl) (by kernel_rfl) (by kernel_rfl) (fun _ _ _ h => h) (Or.inl ⟨by rfl, ?_⟩) ?_
      rotate_left
      · (intro w _; go_simp; try with_reducible rfl)
      try simp only [Act.put, List.setIfInBounds_toArray, List.set_cons_zero, List.set_cons_succ]
      refine wpAnyHE_takeP (i := 7) (oi := { dst := some 65, op := Op.extract (Operand.tmp 58) 1, type := 28, pos := "top.go:151", after := #[{ on := 5, ground := Ground.data }, { on := 8, ground := Ground.gcOnly Departure.lateStores }], guard := none }) (v := ?_) rfl (by kernel_rfl) (by kernel_rfl) (by kernel_rfl) (fun _ _ _ h => h) (Or.inl ⟨by rfl, ?_⟩) ?_
      rotate_left
      · (intro w _; go_simp; try with_reducible rfl)
      try simp only [Act.put, List.setIfInBounds_toArray, List.set_cons_zero, List.set_cons_succ]
      refine wpAnyHE_takeP (i := 8) (oi := { dst := some 11, op := Op.assign (Operand.tmp 64), type := 46, pos := "top.go:151", after := #[{ on := 6, ground := Ground.data }, { on := 4, ground := Ground.chain }, { on := 0, ground := Ground.phase }, { on := 1, ground := Ground.phase }, { on := 2, ground := Ground.phase }, { on := 3, ground := Ground.phase }, { on := 4, ground := Ground.phase }, { on := 5, ground := Ground.phase }, { on := 6, ground := Ground.phase }, { on := 7, ground := Ground.textOnly Departure.lateStores }], guard := none }) (v := ?_) rfl (by kernel_rfl) (by kernel_rfl) (by kernel_rfl) (fun _ _ _ h => h) (Or.inl ⟨by rfl, ?_⟩) ?_
      rotate_left
      · (intro w _; go_simp; try with_reducible rfl)
      try simp only [Act.put, List.setIfInBounds_toArray, List.set_cons_zero, List.set_cons_succ]
      refine wpAnyHE_ready (rs := [9]) (by kernel_rfl) (by simp) ?_
      refine AllReadyE.consE (o := { dst := some 12, op := Op.assign (Operand.tmp 65), type := 28, pos := "top.go:151", after := #[{ on := 7, ground := Ground.data }, { on := 8, ground := Ground.chain }, { on := 0, ground := Ground.phase }, { on := 1, ground := Ground.phase }, { on := 2, ground := Ground.phase }, { on := 3, ground := Ground.phase }, { on := 4, ground := Ground.phase }, { on := 5, ground := Ground.phase }, { on := 6, ground := Ground.phase }, { on := 7, ground := Ground.phase }, { on := 8, ground := Ground.phase }], guard := none }) rfl (by kernel_rfl) (fun KH hKH => ?_) AllReadyE.nil
      have HBX := hide hHeld
      go_simp
      refine hKH.out _ _ ?_
      clear hKH KH
      try clear hHeld
      try simp only [Act.put, List.setIfInBounds_toArray, List.set_cons_zero, List.set_cons_succ]
      refine wpAnyHE_done (by kernel_rfl) ?_ _
      refine NoPanic.normal ?_
      go_wp2
      go_meet
      exact ⟨rfl, hr1.more (fun q h => ⟨Nat.le_trans (by simp) h.1, h.2⟩), HBX⟩
    | some a =>
      by_cases hlk : lc = kk
      · subst hlk
        have HNB0 := hide fun w' hb => HNB.out w' (some a) 0 hb (by have h := HSB.out a rfl; rw [if_pos rfl] at h; exact h) (fun h => by cases h)
        rw [show lines.length - lc = 0 by omega] at HNB0
        refine wp_region_noPanic ?_
        refine wp_region_heldE_drew (S := (fun w' => Below wA.heap.size wA w')) (E := [9]) (by kernel_rfl) ?_ (fun hHeld => ?_)
        · (first | exact (Below.refl _ _).drew | exact hHeld.trans (b1.mono hHeld.size) | exact hHeld)
        try dsimp only [List.size_toArray, List.length_cons, List.length_nil, Nat.reduceAdd]
        refine wpAnyHE_take (i := 0) (oi := { dst := some 59, op := Op.load 24 (Operand.tmp 3), type := 24, pos := "top.go:151", after := #[], guard := none }) (v := ?_) [[0]] rfl (by kernel_rfl) (by kernel_rfl) (by kernel_rfl) (by kernel_rfl) (by kernel_rfl) (fun _ _ _ h => h) (Or.inl ⟨by rfl, ?_⟩) (by assumption) ?_
        rotate_left
        · (intro w hSw; (try dsimp only at hSw); (have t0 := cell_later hSw j0; have t1 := cell_later hSw j1; have t2 := cell_later hSw j2; have t3 := cell_later hSw j3); go_simp; try with_reducible rfl)
        try simp only [Act.put, List.setIfInBounds_toArray, List.set_cons_zero, List.set_cons_succ]
        refine wpAnyHE_takeP (i := 1) (oi := { dst := some 60, op := Op.move (Operand.tmp 1), type := 40, pos := "top.go:151", after := #[], guard := none }) (v := ?_) rfl (by kernel_rfl) (by kernel_rfl) (by kernel_rfl) (fun _ _ _ h => h) (Or.inl ⟨by rfl, ?_⟩) ?_
        rotate_left
        · (intro w _; go_simp; try with_reducible rfl)
        try simp only [Act.put, List.setIfInBounds_toArray, List.set_cons_zero, List.set_cons_succ]
        refine wpAnyHE_takeP (i := 2) (oi := { dst := some 61, op := Op.move (Operand.tmp 8), type := 3, pos := "top.go:151", after := #[], guard := none }) (v := ?_) rfl (by kernel_rfl) (by kernel_rfl) (by kernel_rfl) (fun _ _ _ h => h) (Or.inl ⟨by rfl, ?_⟩) ?_
        rotate_left
        · (intro w _; go_simp; try with_reducible rfl)
        try simp only [Act.put, List.setIfInBounds_toArray, List.set_cons_zero, List.set_cons_succ]
        refine wpAnyHE_takeP (i := 3) (oi := { dst := some 62, op := Op.slice 40 (Operand.tmp 60) (some (Operand.tmp 61)) none none, type := 40, pos := "top.go:151", after := #[{ on := 1, ground := Ground.data }, { on := 2, ground := Ground.data }], guard := none }) (v := ?_) rfl (by kernel_rfl) (by kernel_rfl) (by kernel_rfl) (fun _ _ _ h => h) (Or.inl ⟨by rfl, ?_⟩) ?_
        rotate_left
        · (intro w _; go_simp; try with_reducible rfl)
        try simp only [Act.put, List.setIfInBounds_toArray, List.set_cons_zero, List.set_cons_succ]
        refine wpAnyHE_ready (rs := [4]) (by kernel_rfl) (by simp) ?_
        refine AllReadyE.cons (o := { dst := some 63, op := Op.call { callee := Callee.value (Operand.func 20), args := #[Operand.tmp 59, Operand.tmp 62], argTypes := #[24, 40] }, type := 47, pos := "top.go:151", after := #[{ on := 0, ground := Ground.data }, { on := 3, ground := Ground.data }], guard := none }) rfl (fun KH hKH => ?_) AllReadyE.nil
        go_simp
        (go_at_call 20; refine (HNB0.out _ hHeld).mono ?_; rintro e w1 ⟨⟨v1, rfl, hr1⟩, b1⟩; obtain ⟨g1, rfl⟩ := hr1.ptr)
        try go_wp2_with fail
        refine hKH.out _ _ ?_ (fun hNew => ?_)
        · (first | exact (Below.refl _ _).drew | exact hHeld.trans (b1.mono hHeld.size) | exact hHeld)
        clear hKH KH hHeld
        have hHeld := hNew
        clear hNew
        try simp only [Act.put, List.setIfInBounds_toArray, List.set_cons_zero, List.set_cons_succ]
        refine wpAnyHE_takeP (i := 5) (oi := { dst := some 58, op := Op.move (Operand.tmp 63), type := 47, pos := "top.go:151", after := #[{ on := 4, ground := Ground.data }], guard := none }) (v := ?_) rfl (by kernel_rfl) (by kernel_rfl) (by kernel_rfl) (fun _ _ _ h => h) (Or.inl ⟨by rfl, ?_⟩) ?_
        rotate_left
        · (intro w _; go_simp; try with_reducible rfl)
        try simp only [Act.put, List.setIfInBounds_toArray, List.set_cons_zero, List.set_cons_succ]
        refine wpAnyHE_takeP (i := 6) (oi := { dst := some 64, op := Op.extract (Operand.tmp 58) 0, type := 46, pos := "top.go:151", after := #[{ on := 5, ground := Ground.data }], guard := none }) (v := ?_) rfl (by kernel_rfl) (by kernel_rfl) (by kernel_rfl) (fun _ _ _ h => h) (Or.inl ⟨by rfl, ?_⟩) ?_
        rotate_left
        · (intro w _; go_simp; try with_reducible rfl)
        try simp only [Act.put, List.setIfInBounds_toArray, List.set_cons_zero, List.set_cons_succ]
        refine wpAnyHE_takeP (i := 7) (oi := { dst := some 65, op := Op.extract (Operand.tmp 58) 1, type := 28, pos := "top.go:151", after := #[{ on := 5, ground := Ground.data }, { on := 8, ground := Ground.gcOnly Departure.lateStores }], guard := none }) (v := ?_) rfl (by kernel_rfl) (by kernel_rfl) (by kernel_rfl) (fun _ _ _ h => h) (Or.inl ⟨by rfl, ?_⟩) ?_
        rotate_left
        · (intro w _; go_simp; try with_reducible rfl)
        try simp only [Act.put, List.setIfInBounds_toArray, List.set_cons_zero, List.set_cons_succ]
        refine wpAnyHE_takeP (i := 8) (oi := { dst := some 11, op := Op.assign (Operand.tmp 64), type := 46, pos := "top.go:151", after := #[{ on := 6, ground := Ground.data }, { on := 4, ground := Ground.chain }, { on := 0, ground := Ground.phase }, { on := 1, ground := Ground.phase }, { on := 2, ground := Ground.phase }, { on := 3, ground := Ground.phase }, { on := 4, ground := Ground.phase }, { on := 5, ground := Ground.phase }, { on := 6, ground := Ground.phase }, { on := 7, ground := Ground.textOnly Departure.lateStores }], guard := none }) (v := ?_) rfl (by kernel_rfl) (by kernel_rfl) (by kernel_rfl) (fun _ _ _ h => h) (Or.inl ⟨by rfl, ?_⟩) ?_
        rotate_left
        · (intro w _; go_simp; try with_reducible rfl)
        try simp only [Act.put, List.setIfInBounds_toArray, List.set_cons_zero, List.set_cons_succ]
        refine wpAnyHE_ready (rs := [9]) (by kernel_rfl) (by simp) ?_
        refine AllReadyE.consE (o := { dst := some 12, op := Op.assign (Operand.tmp 65), type := 28, pos := "top.go:151", after := #[{ on := 7, ground := Ground.data }, { on := 8, ground := Ground.chain }, { on := 0, ground := Ground.phase }, { on := 1, ground := Ground.phase }, { on := 2, ground := Ground.phase }, { on := 3, ground := Ground.phase }, { on := 4, ground := Ground.phase }, { on := 5, ground := Ground.phase }, { on := 6, ground := Ground.phase }, { on := 7, ground := Ground.phase }, { on := 8, ground := Ground.phase }], guard := none }) rfl (by kernel_rfl) (fun KH hKH => ?_) AllReadyE.nil
        have HBX := hide hHeld
        go_simp
        refine hKH.out _ _ ?_
        clear hKH KH
        try clear hHeld
        try simp only [Act.put, List.setIfInBounds_toArray, List.set_cons_zero, List.set_cons_succ]
        refine wpAnyHE_done (by kernel_rfl) ?_ _
        refine NoPanic.normal ?_
        go_wp2
        go_meet
        exact ⟨rfl, hr1.more (fun q h => ⟨Nat.le_trans (by simp) h.1, h.2⟩), HBX⟩
      · have HNB0 := hide fun w' hb => HNB.out w' (some (a.add kk)) (lc - kk) hb (by have h := HSB.out a rfl; rw [if_neg hlk] at h; exact h) (fun h => by cases h)
        refine wp_region_noPanic ?_
        refine wp_region_heldE_drew (S := (fun w' => Below wA.heap.size wA w')) (E := [9]) (by kernel_rfl) ?_ (fun hHeld => ?_)
        · (first | exact (Below.refl _ _).drew | exact hHeld.trans (b1.mono hHeld.size) | exact hHeld)
        try dsimp only [List.size_toArray, List.length_cons, List.length_nil, Nat.reduceAdd]
        refine wpAnyHE_take (i := 0) (oi := { dst := some 59, op := Op.load 24 (Operand.tmp 3), type := 24, pos := "top.go:151", after := #[], guard := none }) (v := ?_) [[0]] rfl (by kernel_rfl) (by kernel_rfl) (by kernel_rfl) (by kernel_rfl) (by kernel_rfl) (fun _ _ _ h => h) (Or.inl ⟨by rfl, ?_⟩) (by assumption) ?_
        rotate_left
        · (intro w hSw; (try dsimp only at hSw); (have t0 := cell_later hSw j0; have t1 := cell_later hSw j1; have t2 := cell_later hSw j2; have t3 := cell_later hSw j3); go_simp; try with_reducible rfl)
        try simp only [Act.put, List.setIfInBounds_toArray, List.set_cons_zero, List.set_cons_succ]
        refine wpAnyHE_takeP (i := 1) (oi := { dst := some 60, op := Op.move (Operand.tmp 1), type := 40, pos := "top.go:151", after := #[], guard := none }) (v := ?_) rfl (by kernel_rfl) (by kernel_rfl) (by kernel_rfl) (fun _ _ _ h => h) (Or.inl ⟨by rfl, ?_⟩) ?_
        rotate_left
        · (intro w _; go_simp; try with_reducible rfl)
        try simp only [Act.put, List.setIfInBounds_toArray, List.set_cons_zero, List.set_cons_succ]
        refine wpAnyHE_takeP (i := 2) (oi := { dst := some 61, op := Op.move (Operand.tmp 8), type := 3, pos := "top.go:151", after := #[], guard := none }) (v := ?_) rfl (by kernel_rfl) (by kernel_rfl) (by kernel_rfl) (fun _ _ _ h => h) (Or.inl ⟨by rfl, ?_⟩) ?_
        rotate_left
        · (intro w _; go_simp; try with_reducible rfl)
        try simp only [Act.put, List.setIfInBounds_toArray, List.set_cons_zero, List.set_cons_succ]
        refine wpAnyHE_takeP (i := 3) (oi := { dst := some 62, op := Op.slice 40 (Operand.tmp 60) (some (Operand.tmp 61)) none none, type := 40, pos := "top.go:151", after := #[{ on := 1, ground := Ground.data }, { on := 2, ground := Ground.data }], guard := none }) (v := ?_) rfl (by kernel_rfl) (by kernel_rfl) (by kernel_rfl) (fun _ _ _ h => h) (Or.inl ⟨by rfl, ?_⟩) ?_
        rotate_left
        · (intro w _; go_simp; try with_reducible rfl)
        try simp only [Act.put, List.setIfInBounds_toArray, List.set_cons_zero, List.set_cons_succ]
        refine wpAnyHE_ready (rs := [4]) (by kernel_rfl) (by simp) ?_
        refine AllReadyE.cons (o := { dst := some 63, op := Op.call { callee := Callee.value (Operand.func 20), args := #[Operand.tmp 59, Operand.tmp 62], argTypes := #[24, 40] }, type := 47, pos := "top.go:151", after := #[{ on := 0, ground := Ground.data }, { on := 3, ground := Ground.data }], guard := none }) rfl (fun KH hKH => ?_) AllReadyE.nil
        go_simp
        (go_at_call 20; refine (HNB0.out _ hHeld).mono ?_; rintro e w1 ⟨⟨v1, rfl, hr1⟩, b1⟩; obtain ⟨g1, rfl⟩ := hr1.ptr)
        try go_wp2_with fail
        refine hKH.out _ _ ?_ (fun hNew => ?_)
        · (first | exact (Below.refl _ _).drew | exact hHeld.trans (b1.mono hHeld.size) | exact hHeld)
        clear hKH KH hHeld
        have hHeld := hNew
        clear hNew
        try simp only [Act.put, List.setIfInBounds_toArray, List.set_cons_zero, List.set_cons_succ]
        refine wpAnyHE_takeP (i := 5) (oi := { dst := some 58, op := Op.move (Operand.tmp 63), type := 47, pos := "top.go:151", after := #[{ on := 4, ground := Ground.data }], guard := none }) (v := ?_) rfl (by kernel_rfl) (by kernel_rfl) (by kernel_rfl) (fun _ _ _ h => h) (Or.inl ⟨by rfl, ?_⟩) ?_
        rotate_left
        · (intro w _; go_simp; try with_reducible rfl)
        try simp only [Act.put, List.setIfInBounds_toArray, List.set_cons_zero, List.set_cons_succ]
        refine wpAnyHE_takeP (i := 6) (oi := { dst := some 64, op := Op.extract (Operand.tmp 58) 0, type := 46, pos := "top.go:151", after := #[{ on := 5, ground := Ground.data }], guard := none }) (v := ?_) rfl (by kernel_rfl) (by kernel_rfl) (by kernel_rfl) (fun _ _ _ h => h) (Or.inl ⟨by rfl, ?_⟩) ?_
        rotate_left
        · (intro w _; go_simp; try with_reducible rfl)
        try simp only [Act.put, List.setIfInBounds_toArray, List.set_cons_zero, List.set_cons_succ]
        refine wpAnyHE_takeP (i := 7) (oi := { dst := some 65, op := Op.extract (Operand.tmp 58) 1, type := 28, pos := "top.go:151", after := #[{ on := 5, ground := Ground.data }, { on := 8, ground := Ground.gcOnly Departure.lateStores }], guard := none }) (v := ?_) rfl (by kernel_rfl) (by kernel_rfl) (by kernel_rfl) (fun _ _ _ h => h) (Or.inl ⟨by rfl, ?_⟩) ?_
        rotate_left
        · (intro w _; go_simp; try with_reducible rfl)
        try simp only [Act.put, List.setIfInBounds_toArray, List.set_cons_zero, List.set_cons_succ]
        refine wpAnyHE_takeP (i := 8) (oi := { dst := some 11, op := Op.assign (Operand.tmp 64), type := 46, pos := "top.go:151", after := #[{ on := 6, ground := Ground.data }, { on := 4, ground := Ground.chain }, { on := 0, ground := Ground.phase }, { on := 1, ground := Ground.phase }, { on := 2, ground := Ground.phase }, { on := 3, ground := Ground.phase }, { on := 4, ground := Ground.phase }, { on := 5, ground := Ground.phase }, { on := 6, ground := Ground.phase }, { on := 7, ground := Ground.textOnly Departure.lateStores }], guard := none }) (v := ?_) rfl (by kernel_rfl) (by kernel_rfl) (by kernel_rfl) (fun _ _ _ h => h) (Or.inl ⟨by rfl, ?_⟩) ?_
        rotate_left
        · (intro w _; go_simp; try with_reducible rfl)
        try simp only [Act.put, List.setIfInBounds_toArray, List.set_cons_zero, List.set_cons_succ]
        refine wpAnyHE_ready (rs := [9]) (by kernel_rfl) (by simp) ?_
        refine AllReadyE.consE (o := { dst := some 12, op := Op.assign (Operand.tmp 65), type := 28, pos := "top.go:151", after := #[{ on := 7, ground := Ground.data }, { on := 8, ground := Ground.chain }, { on := 0, ground := Ground.phase }, { on := 1, ground := Ground.phase }, { on := 2, ground := Ground.phase }, { on := 3, ground := Ground.phase }, { on := 4, ground := Ground.phase }, { on := 5, ground := Ground.phase }, { on := 6, ground := Ground.phase }, { on := 7, ground := Ground.phase }, { on := 8, ground := Ground.phase }], guard := none }) rfl (by kernel_rfl) (fun KH hKH => ?_) AllReadyE.nil
        have HBX := hide hHeld
        go_simp
        refine hKH.out _ _ ?_
        clear hKH KH
        try clear hHeld
        try simp only [Act.put, List.setIfInBounds_toArray, List.set_cons_zero, List.set_cons_succ]
        refine wpAnyHE_done (by kernel_rfl) ?_ _
        refine NoPanic.normal ?_
        go_wp2
        go_meet
        exact ⟨rfl, hr1.more (fun q h => ⟨Nat.le_trans (by simp) h.1, h.2⟩), HBX⟩
  case rest =>
  obtain ⟨rfl, HRB, HBB⟩ := hcut
  clear HNB
  replace j0 := cell_later HBB.out j0
  replace j1 := cell_later HBB.out j1
  replace j2 := cell_later HBB.out j2
  replace j3 := cell_later HBB.out j3
  have HBD := hide (HB5.out.trans ((HBA.out.trans (HBB.out.mono HBA.out.size)).mono HB5.out.size))
  have HNC := hide (MNew_run ro rc rs fold many false d lo lc lines wc (HJA.out wc HBD.out) (by unfold maxLen; omega) (HS.out.later HBD.out (Nat.le_refl _)) HN.out HJF.out hl60)
  go_wp2_with fail
  refine HNC.out.mono ?_
  rintro e we ⟨⟨vc, rfl, hrc⟩, be⟩
  obtain ⟨gc, rfl⟩ := hrc.ptr
  obtain ⟨ga, rfl⟩ := HRA.out.ptr
  obtain ⟨gb, rfl⟩ := HRB.out.ptr
  have hsA := HBA.out.size
  have hsB := HBB.out.size
  have hsC := be.size
  have HBE := hide (HBD.out.trans (be.mono HBD.out.size))
  have HW5 := hide HB5.out.size
  have HRA1 := hide ((HRA.out.later HBB.out).later be)
  have HRB1 := hide (HRB.out.later be)
  have HRC1 := hide hrc
  replace j0 := cell_later be j0
  replace j1 := cell_later be j1
  replace j2 := cell_later be j2
  replace j3 := cell_later be j3
  have HJL : Hid (w.heap.size < W5.heap.size) := HBJ5.out.lt
  have HSTA := hide (MStep_run d 60 we (by omega) (fun w' hb => HG.out.later (HBE.out.trans (hb.mono HW5.out)) (Nat.le_refl _)) (fun w' hb => HJA.out w' (HBE.out.trans (hb.mono HW5.out))) HOK.out HRA1.out HLSA.out (by rw [HLA.out]; omega) (by decide))
  rw [show min (0 + (60 : Int).toNat) (lines.take kk).length = (lines.take kk).length by rw [HLA.out]; omega] at HSTA
  clear HNC hrc be HRA HRB HBJ5
  go_wp2_with fail
  refine HSTA.out.mono ?_
  rintro e wf ⟨⟨rfl, ha2⟩, kA⟩
  have hsF := kA.size
  have HRA2 := hide ha2
  have HRB2 := hide (HRB1.out.kept kA fun q h1 h2 => by omega)
  have HRC2 := hide (HRC1.out.kept kA fun q h1 h2 => by omega)
  have bA : Below W5.heap.size we wf := kA.below (fun q hq => hq.1) (by omega)
  have HBF := hide (HBE.out.trans (bA.mono HW5.out))
  replace j0 := (bA.cell (p := ⟨w.heap.size, 0, none⟩) HJL.out).trans j0
  replace j1 := (bA.cell (p := ⟨w.heap.size, 1, none⟩) HJL.out).trans j1
  replace j2 := (bA.cell (p := ⟨w.heap.size, 2, none⟩) HJL.out).trans j2
  replace j3 := (bA.cell (p := ⟨w.heap.size, 3, none⟩) HJL.out).trans j3
  have HSTB := hide (MStep_run d 60 wf (by omega) (fun w' hb => HG.out.later (HBF.out.trans (hb.mono (by have := HW5.out; omega))) (Nat.le_refl _)) (fun w' hb => HJA.out w' (HBF.out.trans (hb.mono (by have := HW5.out; omega)))) HOK.out HRB2.out HLSB.out (by rw [HLB.out]; omega) (by decide))
  rw [show min (0 + (60 : Int).toNat) (lines.drop kk).length = (lines.drop kk).length by rw [HLB.out]; omega] at HSTB
  clear HSTA ha2 kA HRA1 HRB1 HRC1 bA
  go_wp2_with fail
  refine HSTB.out.mono ?_
  rintro e wg ⟨⟨rfl, hb2⟩, kB⟩
  have hsG := kB.size
  have HRA3 := hide (HRA2.out.kept kB fun q h1 h2 => by omega)
  have HRB3 := hide hb2
  have HRC3 := hide (HRC2.out.kept kB fun q h1 h2 => by omega)
  have bB : Below W5.heap.size wf wg := kB.below (fun q hq => by omega) (by omega)
  have HBG := hide (HBF.out.trans (bB.mono HW5.out))
  replace j0 := (bB.cell (p := ⟨w.heap.size, 0, none⟩) HJL.out).trans j0
  replace j1 := (bB.cell (p := ⟨w.heap.size, 1, none⟩) HJL.out).trans j1
  replace j2 := (bB.cell (p := ⟨w.heap.size, 2, none⟩) HJL.out).trans j2
  replace j3 := (bB.cell (p := ⟨w.heap.size, 3, none⟩) HJL.out).trans j3
  have HSTC := hide (MStep_run d 60 wg (by omega) (fun w' hb => HG.out.later (HBG.out.trans (hb.mono (by have := HW5.out; omega))) (Nat.le_refl _)) (fun w' hb => HJA.out w' (HBG.out.trans (hb.mono (by have := HW5.out; omega)))) HOK.out HRC3.out HLS.out (by omega) (by decide))
  rw [show min (0 + (60 : Int).toNat) lines.length = lines.length by omega] at HSTC
  clear HSTB hb2 kB HRA2 HRB2 HRC2 bB
  go_wp2_with fail
  refine HSTC.out.mono ?_
  rintro e wh ⟨⟨rfl, hc2⟩, kC⟩
  have hsH := kC.size
  have HRA4 := hide (HRA3.out.kept kC fun q h1 h2 => by omega)
  have HRB4 := hide (HRB3.out.kept kC fun q h1 h2 => by omega)
  have HRC4 := hide hc2
  have bC : Below W5.heap.size wg wh := kC.below (fun q hq => by omega) (by omega)
  have HBH := hide (HBG.out.trans (bC.mono HW5.out))
  replace j0 := (bC.cell (p := ⟨w.heap.size, 0, none⟩) HJL.out).trans j0
  replace j1 := (bC.cell (p := ⟨w.heap.size, 1, none⟩) HJL.out).trans j1
  replace j2 := (bC.cell (p := ⟨w.heap.size, 2, none⟩) HJL.out).trans j2
  replace j3 := (bC.cell (p := ⟨w.heap.size, 3, none⟩) HJL.out).trans j3
  clear HSTC hc2 kC HRA3 HRB3 HRC3 bC
  have HXA := hide (MSlices_run wh HRA4.out HOK.out HLSA.out (by rw [HLA.out]; omega))
  rw [List.take_length] at HXA
  go_wp2_with fail
  refine HXA.out.mono ?_
  rintro e wi ⟨xo, xs, rfl, hx, bi⟩
  have HX := hide hx
  replace j0 := cell_later bi j0
  replace j1 := cell_later bi j1
  replace j2 := cell_later bi j2
  replace j3 := cell_later bi j3
  replace HBH := hide (HBH.out.trans (bi.mono HBH.out.size))
  have HXB := hide (MSlices_run wi (HRB4.out.later bi) HOK.out HLSB.out (by rw [HLB.out]; omega))
  rw [List.take_length] at HXB
  have HRC5 := hide (HRC4.out.later bi)
  clear HXA hx bi HRA4 HRB4 HRC4
  go_wp2_with fail
  refine HXB.out.mono ?_
  rintro e wj ⟨yo, ys, rfl, hy, bj⟩
  have HY := hide hy
  replace j0 := cell_later bj j0
  replace j1 := cell_later bj j1
  replace j2 := cell_later bj j2
  replace j3 := cell_later bj j3
  replace HBH := hide (HBH.out.trans (bj.mono HBH.out.size))
  replace HX := hide (HX.out.later bj)
  have HXC := hide (MSlices_run wj (HRC5.out.later bj) HOK.out HLS.out (by omega))
  rw [List.take_length] at HXC
  clear HXB hy bj HRC5
  go_wp2_with fail
  refine HXC.out.mono ?_
  rintro e wk ⟨zo, zs, rfl, hz, bk⟩
  have HZ := hide hz
  replace j0 := cell_later bk j0
  replace j1 := cell_later bk j1
  replace j2 := cell_later bk j2
  replace j3 := cell_later bk j3
  replace HBH := hide (HBH.out.trans (bk.mono HBH.out.size))
  replace HX := hide (HX.out.later bk)
  replace HY := hide (HY.out.later bk)
  clear HXC hz bk hsA hsB hsC hsF hsG hsH
  have hml : madeL (rs.map RuleR.v) fold lines = madeL (rs.map RuleR.v) fold (lines.take kk) ++ madeL (rs.map RuleR.v) fold (lines.drop kk) := by rw [← madeL_append, List.take_append_drop]
  rw [hml] at HZ
  have HPT := hide fun k a b c hk h1 h2 h3 => slice_parts (fold := fold) (many := many) (k := k) (A := madeL (rs.map RuleR.v) fold (lines.take kk)) (B := madeL (rs.map RuleR.v) fold (lines.drop kk)) (a := a) (b := b) (c := c) hk h1 h2 h3
  have HRI1 := hide fun k l hk hl => cutP_rise (fold := fold) (early := false) (many := many) (n := k) (l := madeL (rs.map RuleR.v) fold (lines.take kk)) (s := l) hk hl
  have HRI2 := hide fun k l hk hl => cutP_rise (fold := fold) (early := false) (many := many) (n := k) (l := madeL (rs.map RuleR.v) fold (lines.drop kk)) (s := l) hk hl
  have hA1 := madeL_len (rs.map RuleR.v) fold (by rw [List.length_map]; exact hrn) (lines.take kk) HLSA.out
  have hB1 := madeL_len (rs.map RuleR.v) fold (by rw [List.length_map]; exact hrn) (lines.drop kk) HLSB.out
  have HC1 : Hid (∀ (A : List Pr) (k : Nat) l, k < many → (cutP fold false many A)[k]? = some l → l.length ≤ A.length) := fun A k l hk hl => by
    rw [cutP_get hk, if_neg (by simp)] at hl
    obtain rfl := Option.some.inj hl
    rw [srt_len]
    exact List.length_filter_le _ _
  have hl1 := HLA.out
  have hl2 := HLB.out
  rw [hl1] at hA1
  rw [hl2] at hB1
  have HN1 := hide (cutP_len fold false many (madeL (rs.map RuleR.v) fold (lines.take kk)))
  have HN2 := hide (cutP_len fold false many (madeL (rs.map RuleR.v) fold (lines.drop kk)))
  have HN3 := hide (cutP_len fold false many (madeL (rs.map RuleR.v) fold (lines.take kk) ++ madeL (rs.map RuleR.v) fold (lines.drop kk)))
  have HA1 : Hid ((madeL (rs.map RuleR.v) fold (lines.take kk)).length ≤ 120480) := by show _ ≤ _; omega
  have HB1 : Hid ((madeL (rs.map RuleR.v) fold (lines.drop kk)).length ≤ 120480) := by show _ ≤ _; omega
  clear hml hA1 hB1 hl1 hl2 HLA HLB HLSA HLSB HSA HSB HLS HJA HLTX HJF HS HJ HG HN j0 j1 j2
  generalize madeL (rs.map RuleR.v) fold (lines.take kk) = LA at *
  generalize madeL (rs.map RuleR.v) fold (lines.drop kk) = LB at *
  have hmm : ((many : Int) == (many : Int)) = true := by simp
  go_wp2
  go_loopw [18] (fun kv wr => ∃ (k : Nat), k ≤ many ∧ kv = .int .i64 k ∧ Hid (Below wk.heap.size wk wr)) (fun kv _ => many - (intOf kv).toNat)
  case atStart => exact ⟨0, by omega, rfl, Below.refl _ _⟩
  case round =>
    obtain ⟨k, hk, rfl, HBS⟩ := hrel
    have HBX := hide (HBH.out.trans (HBS.out.mono HBH.out.size))
    by_cases hlt : k < many
    · obtain ⟨v1, l1, hv1, hl1, ho1, cx⟩ := (HX.out.later HBS.out).row (k := k) (by rw [HN1.out]; exact hlt)
      obtain ⟨v2, l2, hv2, hl2, ho2, cy⟩ := (HY.out.later HBS.out).row (k := k) (by rw [HN2.out]; exact hlt)
      obtain ⟨v3, l3, hv3, hl3, ho3, cz⟩ := (HZ.out.later HBS.out).row (k := k) (by rw [HN3.out]; exact hlt)
      obtain ⟨xa, xc, rfl⟩ := id ho1.1
      obtain ⟨ya, yc, rfl⟩ := id ho2.1
      obtain ⟨za, zc, rfl⟩ := id ho3.1
      have HS1 := hide (ho1.sl encP_len)
      have HS2 := hide (ho2.sl encP_len)
      have HS3 := hide (ho3.sl encP_len)
      have HMQ := hide (HPT.out k l1 l2 l3 hlt hl1 hl2 hl3)
      have hr1 := HRI1.out k l1 hlt hl1
      have hr2 := HRI2.out k l2 hlt hl2
      have hc1 := HC1.out LA k l1 hlt hl1
      have hc2 := HC1.out LB k l2 hlt hl2
      have ha1 := HA1.out
      have hb1' := HB1.out
      have hl3' : l3.length ≤ maxLen := by rw [← HMQ.out, srt_len]; simp [maxLen]; omega
      have HMG := hide fun (w' : World) (q : Option Addr) (hb : Below wr.heap.size wr w') (hq : Sl 1 encRow w' q [(xa, xc, l1), (ya, yc, l2)]) => Merge_any q 2 [(xa, xc, l1), (ya, yc, l2)] w' (by simp) (by simp [rowsL]; omega) (by
        intro x hx
        simp [rowsL] at hx
        rcases hx with rfl | rfl
        · exact hr1
        · exact hr2) hq (by
        intro r hr
        simp at hr
        rcases hr with rfl | rfl
        · exact HS1.out.later hb (Nat.le_refl _)
        · exact HS2.out.later hb (Nat.le_refl _))
      rw [show rowsL [(xa, xc, l1), (ya, yc, l2)] = [l1, l2] from rfl, HMQ.out] at HMG
      have HSM := hide fun (w' : World) (ma : Option Addr) (mc : Nat) (hb : Below wr.heap.size wr w') (hm : Sl 2 encP w' ma l3) => SamePairs_refl ma za mc zc l3 w' hl3' hm (HS3.out.later hb (Nat.le_refl _))
      have f1 : (0 : Int) ≤ (k : Int) ∧ (k : Int) < (many : Int) := by omega
      obtain ⟨f1, f2⟩ := f1
      clear hv1 hv2 hv3 hl1 hl2 hl3 ho1 ho2 ho3 hr1 hr2 hc1 hc2 ha1 hb1'
      go_upto_region 24 with (fail)
      refine wp_region_noPanic ?_
      refine wp_region_heldE_drew (S := (fun w' => Below wr.heap.size wr w')) (E := [15]) (by kernel_rfl) ?_ (fun hHeld => ?_)
      · (first | exact (Below.refl _ _).drew | exact hHeld.trans (b2.mono hHeld.size) | exact hHeld.trans (b1.mono hHeld.size) | exact hHeld.alloc hHeld.size _ | exact hHeld)
      try dsimp only [List.size_toArray, List.length_cons, List.length_nil, Nat.reduceAdd]
      refine wpAnyHE_takeP (i := 0) (oi := { dst := some 100, op := Op.move (Operand.tmp 15), type := 50, pos := "top.go:163", after := #[], guard := none }) (v := ?_) rfl (by kernel_rfl) (by kernel_rfl) (by kernel_rfl) (fun _ _ _ h => h) (Or.inl ⟨by rfl, ?_⟩) ?_
      rotate_left
      · (intro w _; go_simp; try with_reducible rfl)
      try simp only [Act.put, List.setIfInBounds_toArray, List.set_cons_zero, List.set_cons_succ]
      refine wpAnyHE_takeP (i := 1) (oi := { dst := some 101, op := Op.move (Operand.tmp 18), type := 3, pos := "top.go:163", after := #[], guard := none }) (v := ?_) rfl (by kernel_rfl) (by kernel_rfl) (by kernel_rfl) (fun _ _ _ h => h) (Or.inl ⟨by rfl, ?_⟩) ?_
      rotate_left
      · (intro w _; go_simp; try with_reducible rfl)
      try simp only [Act.put, List.setIfInBounds_toArray, List.set_cons_zero, List.set_cons_succ]
      refine wpAnyHE_takeP (i := 2) (oi := { dst := some 102, op := Op.indexAddr 50 (Operand.tmp 100) (Operand.tmp 101), type := 0, pos := "top.go:163", after := #[{ on := 0, ground := Ground.data }, { on := 1, ground := Ground.data }], guard := none }) (v := ?_) rfl (by kernel_rfl) (by kernel_rfl) (by kernel_rfl) (fun _ _ _ h => h) (Or.inl ⟨by rfl, ?_⟩) ?_
      rotate_left
      · (intro w _; go_simp; try with_reducible rfl)
      try simp only [Act.put, List.setIfInBounds_toArray, List.set_cons_zero, List.set_cons_succ]
      refine wpAnyHE_take (i := 3) (oi := { dst := some 103, op := Op.load 30 (Operand.tmp 102), type := 30, pos := "top.go:163", after := #[{ on := 2, ground := Ground.data }], guard := none }) (v := ?_) [[14, 9, 8, 3]] rfl (by kernel_rfl) (by kernel_rfl) (by kernel_rfl) (by kernel_rfl) (by kernel_rfl) (fun _ _ _ h => h) (Or.inl ⟨by rfl, ?_⟩) (by assumption) ?_
      rotate_left
      · (intro w hSw; (try dsimp only at hSw); (have t0 := cell_later hSw cx; have t1 := cell_later hSw cy; have t2 := cell_later hSw cz); go_simp; try with_reducible rfl)
      try simp only [Act.put, List.setIfInBounds_toArray, List.set_cons_zero, List.set_cons_succ]
      refine wpAnyHE_takeP (i := 4) (oi := { dst := some 104, op := Op.move (Operand.tmp 16), type := 50, pos := "top.go:163", after := #[], guard := none }) (v := ?_) rfl (by kernel_rfl) (by kernel_rfl) (by kernel_rfl) (fun _ _ _ h => h) (Or.inl ⟨by rfl, ?_⟩) ?_
      rotate_left
      · (intro w _; go_simp; try with_reducible rfl)
      try simp only [Act.put, List.setIfInBounds_toArray, List.set_cons_zero, List.set_cons_succ]
      refine wpAnyHE_takeP (i := 5) (oi := { dst := some 105, op := Op.move (Operand.tmp 18), type := 3, pos := "top.go:163", after := #[], guard := none }) (v := ?_) rfl (by kernel_rfl) (by kernel_rfl) (by kernel_rfl) (fun _ _ _ h => h) (Or.inl ⟨by rfl, ?_⟩) ?_
      rotate_left
      · (intro w _; go_simp; try with_reducible rfl)
      try simp only [Act.put, List.setIfInBounds_toArray, List.set_cons_zero, List.set_cons_succ]
      refine wpAnyHE_takeP (i := 6) (oi := { dst := some 106, op := Op.indexAddr 50 (Operand.tmp 104) (Operand.tmp 105), type := 0, pos := "top.go:163", after := #[{ on := 4, ground := Ground.data }, { on := 5, ground := Ground.data }], guard := none }) (v := ?_) rfl (by kernel_rfl) (by kernel_rfl) (by kernel_rfl) (fun _ _ _ h => h) (Or.inl ⟨by rfl, ?_⟩) ?_
      rotate_left
      · (intro w _; go_simp; try with_reducible rfl)
      try simp only [Act.put, List.setIfInBounds_toArray, List.set_cons_zero, List.set_cons_succ]
      refine wpAnyHE_take (i := 7) (oi := { dst := some 107, op := Op.load 30 (Operand.tmp 106), type := 30, pos := "top.go:163", after := #[{ on := 6, ground := Ground.data }], guard := none }) (v := ?_) [[14, 9, 8, 7]] rfl (by kernel_rfl) (by kernel_rfl) (by kernel_rfl) (by kernel_rfl) (by kernel_rfl) (fun _ _ _ h => h) (Or.inl ⟨by rfl, ?_⟩) (by assumption) ?_
      rotate_left
      · (intro w hSw; (try dsimp only at hSw); (have t0 := cell_later hSw cx; have t1 := cell_later hSw cy; have t2 := cell_later hSw cz); go_simp; try with_reducible rfl)
      try simp only [Act.put, List.setIfInBounds_toArray, List.set_cons_zero, List.set_cons_succ]
      refine wpAnyHE_takeP (i := 10) (oi := { dst := some 110, op := Op.move (Operand.tmp 17), type := 50, pos := "top.go:163", after := #[], guard := none }) (v := ?_) rfl (by kernel_rfl) (by kernel_rfl) (by kernel_rfl) (fun _ _ _ h => h) (Or.inl ⟨by rfl, ?_⟩) ?_
      rotate_left
      · (intro w _; go_simp; try with_reducible rfl)
      try simp only [Act.put, List.setIfInBounds_toArray, List.set_cons_zero, List.set_cons_succ]
      refine wpAnyHE_takeP (i := 11) (oi := { dst := some 111, op := Op.move (Operand.tmp 18), type := 3, pos := "top.go:163", after := #[], guard := none }) (v := ?_) rfl (by kernel_rfl) (by kernel_rfl) (by kernel_rfl) (fun _ _ _ h => h) (Or.inl ⟨by rfl, ?_⟩) ?_
      rotate_left
      · (intro w _; go_simp; try with_reducible rfl)
      try simp only [Act.put, List.setIfInBounds_toArray, List.set_cons_zero, List.set_cons_succ]
      refine wpAnyHE_takeP (i := 12) (oi := { dst := some 112, op := Op.indexAddr 50 (Operand.tmp 110) (Operand.tmp 111), type := 0, pos := "top.go:163", after := #[{ on := 10, ground := Ground.data }, { on := 11, ground := Ground.data }], guard := none }) (v := ?_) rfl (by kernel_rfl) (by kernel_rfl) (by kernel_rfl) (fun _ _ _ h => h) (Or.inl ⟨by rfl, ?_⟩) ?_
      rotate_left
      · (intro w _; go_simp; try with_reducible rfl)
      try simp only [Act.put, List.setIfInBounds_toArray, List.set_cons_zero, List.set_cons_succ]
      refine wpAnyHE_take (i := 13) (oi := { dst := some 113, op := Op.load 30 (Operand.tmp 112), type := 30, pos := "top.go:163", after := #[{ on := 12, ground := Ground.data }], guard := none }) (v := ?_) [[14, 13]] rfl (by kernel_rfl) (by kernel_rfl) (by kernel_rfl) (by kernel_rfl) (by kernel_rfl) (fun _ _ _ h => h) (Or.inl ⟨by rfl, ?_⟩) (by assumption) ?_
      rotate_left
      · (intro w hSw; (try dsimp only at hSw); (have t0 := cell_later hSw cx; have t1 := cell_later hSw cy; have t2 := cell_later hSw cz); go_simp; try with_reducible rfl)
      try simp only [Act.put, List.setIfInBounds_toArray, List.set_cons_zero, List.set_cons_succ]
      refine wpAnyHE_ready (rs := [8]) (by kernel_rfl) (by simp) ?_
      refine AllReadyE.cons (o := { dst := some 108, op := Op.buildSlice 50 2 #[(0, Operand.tmp 103), (1, Operand.tmp 107)], type := 50, pos := "top.go:163", after := #[{ on := 3, ground := Ground.data }, { on := 7, ground := Ground.data }], guard := none }) rfl (fun KH hKH => ?_) AllReadyE.nil
      go_simp
      refine hKH.out _ _ ?_ (fun hNew => ?_)
      · (first | exact (Below.refl _ _).drew | exact hHeld.trans (b2.mono hHeld.size) | exact hHeld.trans (b1.mono hHeld.size) | exact hHeld.alloc hHeld.size _ | exact hHeld)
      clear hKH KH hHeld
      have hHeld := hNew
      clear hNew
      try simp only [Act.put, List.setIfInBounds_toArray, List.set_cons_zero, List.set_cons_succ]
      refine wpAnyHE_ready (rs := [9]) (by kernel_rfl) (by simp) ?_
      refine AllReadyE.cons (o := { dst := some 109, op := Op.call { callee := Callee.value (Operand.func 24), args := #[Operand.tmp 108], argTypes := #[50] }, type := 30, pos := "top.go:163", after := #[{ on := 8, ground := Ground.data }], guard := none }) rfl (fun KH hKH => ?_) AllReadyE.nil
      go_simp
      have hlit : Sl 1 encRow (wr.drew.alloc (.cells #[.slice xa l1.length xc, .slice ya l2.length yc] 30)) (some ⟨wr.heap.size, 0, none⟩) [(xa, xc, l1), (ya, yc, l2)] := Sl.lit encRow_len (heap_new wr.drew _) rfl
      (go_at_call 24; refine (HMG.out _ _ hHeld hlit).mono ?_; rintro e w1 ⟨v1, rfl, o1, b1⟩; obtain ⟨pa, pc, rfl⟩ := id o1.1)
      try go_wp2_with fail
      refine hKH.out _ _ ?_ (fun hNew => ?_)
      · (first | exact (Below.refl _ _).drew | exact hHeld.trans (b2.mono hHeld.size) | exact hHeld.trans (b1.mono hHeld.size) | exact hHeld.alloc hHeld.size _ | exact hHeld)
      clear hKH KH hHeld
      have hHeld := hNew
      clear hNew
      try simp only [Act.put, List.setIfInBounds_toArray, List.set_cons_zero, List.set_cons_succ]
      refine wpAnyHE_ready (rs := [14]) (by kernel_rfl) (by simp) ?_
      refine AllReadyE.cons (o := { dst := some 114, op := Op.call { callee := Callee.value (Operand.func 14), args := #[Operand.tmp 109, Operand.tmp 113], argTypes := #[30, 30] }, type := 4, pos := "top.go:163", after := #[{ on := 9, ground := Ground.data }, { on := 13, ground := Ground.data }, { on := 9, ground := Ground.chain }], guard := none }) rfl (fun KH hKH => ?_) AllReadyE.nil
      go_simp
      (go_at_call 14; refine (HSM.out _ _ _ hHeld (o1.sl encP_len)).mono ?_; rintro e w2 ⟨rfl, b2⟩)
      try go_wp2_with fail
      refine hKH.out _ _ ?_ (fun hNew => ?_)
      · (first | exact (Below.refl _ _).drew | exact hHeld.trans (b2.mono hHeld.size) | exact hHeld.trans (b1.mono hHeld.size) | exact hHeld.alloc hHeld.size _ | exact hHeld)
      clear hKH KH hHeld
      have hHeld := hNew
      clear hNew
      try simp only [Act.put, List.setIfInBounds_toArray, List.set_cons_zero, List.set_cons_succ]
      refine wpAnyHE_ready (rs := [15]) (by kernel_rfl) (by simp) ?_
      refine AllReadyE.consE (o := { dst := some 115, op := Op.unOp UnOp.not 4 (Operand.tmp 114), type := 4, pos := "top.go:163", after := #[{ on := 14, ground := Ground.data }], guard := none }) rfl (by kernel_rfl) (fun KH hKH => ?_) AllReadyE.nil
      have HBY := hide (HBS.out.trans (hHeld.mono HBS.out.size))
      clear o1 b1 b2 hlit HMG HSM
      go_simp
      refine hKH.out _ _ ?_
      clear hKH KH
      try clear hHeld
      try simp only [Act.put, List.setIfInBounds_toArray, List.set_cons_zero, List.set_cons_succ]
      refine wpAnyHE_done (by kernel_rfl) ?_ _
      refine NoPanic.normal ?_
      go_wp2
      go_roundw
      case rel => exact ⟨k + 1, by omega, by go_num, HBY⟩
      case measure => (simp [intOf]; try omega)
    · obtain rfl : k = many := by omega
      have q3 := cell_later HBS.out j3
      go_wp2
      go_ret
      exact ⟨rfl, HBX.out⟩
end Go.Proofs.YtafogaopccajaaaDoor
