/- The text of a job: job.folds, job.Text. -/
import Derived.Test.YtgeedjlbajmdkaaGreatDoorJText2
import Derived.Test.YtgeedjlbajmdkaaGreatDoorJobCheck2
import Derived.Lib.QuietBelow
set_option linter.unusedSimpArgs false
set_option linter.unusedVariables false
namespace Go.Proofs.YtgeedjlbajmdkaaGreatDoor
open Go.RowKit

/-- a job's text, what is wrong -/
def textOut (rs : List RuleV) (fold slices : Int) (early : Bool) : List UInt8 × Int :=
  if jobF rs fold slices ≠ 0 then ([], jobF rs fold slices) else if 800 < (jobT rs fold slices early).length then ([], 2) else (jobT rs fold slices early, 0)
theorem ruleT_len {r : RuleV} (h : ruleF r = 0) : (textX r.cond).length ≤ 3030 ∧ (textX r.key).length ≤ 3030 ∧ (textX r.val).length ≤ 3030 ∧ (quoteL r.txt.data.toList).length ≤ 42 ∧ (whenT r).length ≤ 3100 ∧ (ruleT r).length ≤ 9300 := by
  obtain ⟨hok, hb, _⟩ := rule_parts h
  obtain ⟨k1, k2, k3⟩ := hok.key
  obtain ⟨v1, v2, v3⟩ := hok.val
  have h1 := textX_len _ _ _ k3
  have h2 := textX_len _ _ _ v3
  have h3 : (textX r.cond).length ≤ 3030 := by
    by_cases h0 : r.when_ = 0
    · rw [(hb h0).1]; decide
    · obtain ⟨c1, c2, c3⟩ := hok.cond h0
      have := textX_len _ _ _ c3
      omega
  have h4 : (quoteL r.txt.data.toList).length ≤ 42 := by
    have := escB_len r.txt.data.toList
    rw [tl_len] at this
    have := hok.txt
    simp only [quoteL, List.length_cons, List.length_append, List.length_nil]
    omega
  have h5 : (whenT r).length ≤ 3100 := by
    unfold whenT
    split
    · simp
    · simp only [List.length_append, List.length_cons, List.length_nil]
      split <;> simp only [List.length_cons, List.length_nil] <;> omega
  have h6 : (eachT r.each).length ≤ 5 := by unfold eachT; split <;> decide
  refine ⟨h3, by omega, by omega, h4, h5, ?_⟩
  unfold ruleT
  simp only [List.length_append, List.length_cons, List.length_nil]
  omega
def linesT (l : List RuleV) : List UInt8 := l.flatMap fun r => ruleT r ++ [10]
theorem linesT_succ {l : List RuleV} {j : Nat} {r : RuleV} (h : l[j]? = some r) : linesT (l.take (j + 1)) = linesT (l.take j) ++ (ruleT r ++ [10]) := by
  obtain ⟨hlt, hx⟩ := List.getElem?_eq_some_iff.1 h
  rw [List.take_succ_eq_append_getElem hlt, hx]
  unfold linesT
  rw [List.flatMap_append]
  simp
theorem linesT_len : ∀ (l : List RuleV), (∀ r ∈ l, ruleF r = 0) → (linesT l).length ≤ 9301 * l.length
  | [], _ => by simp [linesT]
  | r :: l, h => by
    have h1 := (ruleT_len (h r List.mem_cons_self)).2.2.2.2.2
    have h2 := linesT_len l fun x hx => h x (List.mem_cons_of_mem _ hx)
    have e : linesT (r :: l) = (ruleT r ++ [10]) ++ linesT l := rfl
    rw [e, List.length_append, List.length_append, List.length_cons]
    simp only [List.length_cons, List.length_nil]
    omega
def foldsL : List ByteArray := [tx [], tx (foldK 1), tx (foldK 2), tx (foldK 3), tx (foldK 4)]
set_option maxRecDepth 100000 in
theorem folds_any (w : World) : Calls Tryz.prog 41 #[] w fun e w' => e = .returned (.slice (some ⟨w.heap.size, 0, none⟩) 5 5) ∧ (∀ (j : Nat) x, foldsL[j]? = some x → w'.cell? ⟨w.heap.size, j, none⟩ = some (.string x)) ∧ w.heap.size < w'.heap.size ∧ Below w.heap.size w w' := by
  go_enter Tryz.func41, Tryz.ntmps41
  go_wp2
  go_ret
  refine ⟨rfl, fun j x hj => ?_, by simp, (Below.refl _ _).alloc (Nat.le_refl _) _⟩
  have hk := Bk.new (w := w) (cs := (foldsL.map Value.string).toArray) (t := 9) rfl
  exact hk.get (j := j) (by rw [List.getElem?_map, hj]; rfl)
set_option maxRecDepth 100000 in
set_option maxHeartbeats 4000000 in
theorem Text_job (ro : Option Addr) (rc : Nat) (rs : List RuleR) (fold slices : Int) (early : Bool) (w : World) (hg : GT w) (hl : rs.length ≤ maxLen) (hs : Sl 15 encRule w ro rs) (hr : ∀ r ∈ rs, ∃ d, RuleAt w d r) :
    Calls Tryz.prog 11 #[.agg #[.slice ro rs.length rc, .int .i64 fold, .bool early, .int .i64 slices]] w fun e w' => e = .returned (.tuple #[.string (tx (textOut (rs.map RuleR.v) fold slices early).1), errV (textOut (rs.map RuleR.v) fold slices early).2]) ∧ Below w.heap.size w w' := by
  obtain ⟨W, hW⟩ : ∃ W, W = w.alloc (.cells #[.slice ro rs.length rc, .int .i64 fold, .bool early, .int .i64 slices] 24) := ⟨_, rfl⟩
  have hb0 : Below w.heap.size w W := by rw [hW]; exact (Below.refl _ _).alloc (Nat.le_refl _) _
  have hbk : Bk W w.heap.size [.slice ro rs.length rc, .int .i64 fold, .bool early, .int .i64 slices] := by rw [hW]; exact Bk.new rfl
  have HS := hide hs
  have HR := hide hr
  have HB := hide hb0
  have HBK := hide hbk
  have HWW := hide hW
  have HG := hide hg
  have HJC := hide (jobCheck_any ro rc rs fold slices early W hl (hs.later hb0 (Nat.le_refl _)) fun r hr' => by obtain ⟨d, h⟩ := hr r hr'; exact ⟨d, h.later hb0 (Nat.le_refl _)⟩)
  obtain ⟨RV, hRV⟩ : ∃ RV, RV = rs.map RuleR.v := ⟨_, rfl⟩
  rw [← hRV] at HJC ⊢
  have HRV := hide hRV
  clear hRV
  obtain ⟨jf, hjf⟩ : ∃ jf, jobF RV fold slices = jf := ⟨_, rfl⟩
  have HJF := hide hjf
  rw [hjf] at HJC
  have j0 := hbk.get (j := 0) rfl
  have j1 := hbk.get (j := 1) rfl
  have j2 := hbk.get (j := 2) rfl
  have j3 := hbk.get (j := 3) rfl
  unfold maxLen at hl
  clear hs hr hb0 hbk hW hg hjf
  go_enter Tryz.func11, Tryz.ntmps11
  go_upto_region 1 with (fail)
  rw [← HWW.out]
  clear HWW
  go_wp2_with fail
  refine HJC.out.mono ?_
  rintro e w1 ⟨rfl, b1⟩
  replace j0 := cell_later b1 j0
  replace j1 := cell_later b1 j1
  replace j2 := cell_later b1 j2
  replace j3 := cell_later b1 j3
  replace HB := hide (HB.out.trans (b1.mono HB.out.size))
  replace HBK := hide (HBK.out.later b1)
  clear b1 HJC
  by_cases hj0 : jf = 0
  case neg =>
    rw [errV_pos hj0]
    have HO : Hid (textOut RV fold slices early = ([], jf)) := by show _ = _; unfold textOut; rw [HJF.out, if_pos hj0]
    go_wp2
    go_ret2
    exact ⟨by rw [HO.out, errV_pos hj0]; rfl, HB.out⟩
  subst hj0
  rw [errV_zero]
  have hok := jobF_ok HJF.out
  obtain ⟨⟨hl1, hl4⟩, hf, hsl, hrok⟩ := hok
  rw [HRV.out, List.length_map] at hl1 hl4
  have HROK := hide hrok
  obtain ⟨m, hm⟩ : ∃ m : Nat, fold = (m : Int) := ⟨fold.toNat, by omega⟩
  subst hm
  have hm4 : 1 ≤ m ∧ m ≤ 4 := by omega
  have HFO : Hid (∀ (w' : World) g, (∀ (j : Nat) x, foldsL[j]? = some x → w'.cell? ⟨g, j, none⟩ = some (.string x)) → w'.cell? ⟨g, m, none⟩ = some (.string (tx (foldK m)))) := fun w' g h => by
    refine h m _ ?_
    have : m = 1 ∨ m = 2 ∨ m = 3 ∨ m = 4 := by omega
    rcases this with rfl | rfl | rfl | rfl <;> rfl
  have HI := hide fun w' (hb : Below w1.heap.size w1 w') => Itoa_any slices w' (HG.out.later (HB.out.trans (hb.mono HB.out.size)) (Nat.le_refl _)) (by omega) (by omega)
  have hfl : (tx (foldK m)).size ≤ 8 := by
    have : m = 1 ∨ m = 2 ∨ m = 3 ∨ m = 4 := by omega
    rcases this with rfl | rfl | rfl | rfl <;> decide
  have hil : (tx (Lib.itoa slices)).size ≤ 20 := by rw [tx_size]; exact itoa_len (by omega) (by omega)
  have HP : Hid ((tx (foldK m) ++ ⟨#[32]⟩) ++ tx (Lib.itoa slices) = tx (foldK m ++ 32 :: Lib.itoa slices)) := by
    show _ = _
    apply tl_inj
    rw [tl, tl, tx_list]
    simp [tx, ByteArray.data_append]
  obtain ⟨HD, hHD⟩ : ∃ HD, HD = headT m slices early := ⟨_, rfl⟩
  have HHD := hide hHD
  have hhl : HD.length ≤ 60 := by
    rw [hHD]
    have h1 : (foldK m).length ≤ 8 := by rw [tx_size] at hfl; exact hfl
    have h2 : (Lib.itoa slices).length ≤ 20 := by rw [tx_size] at hil; exact hil
    unfold headT
    simp only [List.length_append, List.length_cons]
    split <;> simp only [List.length_cons, List.length_nil] <;> omega
  clear hHD hf hsl hrok
  have g0 : (0 : Int) ≤ (m : Int) ∧ (m : Int) < 5 := by omega
  obtain ⟨g0, g1⟩ := g0
  go_upto_region 4 with (fail)
  go_cut [5] from 13 to 22 (fun sv wc => sv = .string (tx (foldK m ++ 32 :: Lib.itoa slices)) ∧ Hid (Below w1.heap.size w1 wc))
  case first =>
    generalize tx (foldK m) = F0 at *
    generalize tx (Lib.itoa slices) = D0 at *
    have n1 : ¬ 9223372036854775807 < F0.size + 1 := by omega
    have n2 : ¬ 9223372036854775807 < F0.size + 1 + D0.size := by omega
    refine wp_region_noPanic ?_
    refine wp_region_heldE_drew (S := (fun w' => Below w1.heap.size w1 w')) (E := [10]) (by kernel_rfl) ?_ (fun hHeld => ?_)
    · (first | exact (Below.refl _ _).drew | exact hHeld.trans (b3.mono hHeld.size) | exact hHeld.trans (b2.mono hHeld.size) | exact hHeld)
    try dsimp only [List.size_toArray, List.length_cons, List.length_nil, Nat.reduceAdd]
    refine wpAnyHE_takeP (i := 1) (oi := { dst := some 14, op := Op.fieldAddr 24 (Operand.tmp 1) 1, type := 0, pos := "job.go:92", after := #[], guard := none }) (v := ?_) rfl (by kernel_rfl) (by kernel_rfl) (by kernel_rfl) (fun _ _ _ h => h) (Or.inl ⟨by rfl, ?_⟩) ?_
    rotate_left
    · (intro w _; go_simp; try with_reducible rfl)
    try simp only [Act.put, List.setIfInBounds_toArray, List.set_cons_zero, List.set_cons_succ]
    refine wpAnyHE_takeP (i := 6) (oi := { dst := some 19, op := Op.fieldAddr 24 (Operand.tmp 1) 3, type := 0, pos := "job.go:92", after := #[], guard := none }) (v := ?_) rfl (by kernel_rfl) (by kernel_rfl) (by kernel_rfl) (fun _ _ _ h => h) (Or.inl ⟨by rfl, ?_⟩) ?_
    rotate_left
    · (intro w _; go_simp; try with_reducible rfl)
    try simp only [Act.put, List.setIfInBounds_toArray, List.set_cons_zero, List.set_cons_succ]
    refine wpAnyHE_take (i := 2) (oi := { dst := some 15, op := Op.load 3 (Operand.tmp 14), type := 3, pos := "job.go:92", after := #[{ on := 1, ground := Ground.data }], guard := none }) (v := ?_) [[2]] rfl (by kernel_rfl) (by kernel_rfl) (by kernel_rfl) (by kernel_rfl) (by kernel_rfl) (fun _ _ _ h => h) (Or.inl ⟨by rfl, ?_⟩) (by assumption) ?_
    rotate_left
    · (intro w hSw; (try dsimp only at hSw); (have t0 := cell_later hSw j1; have t1 := cell_later hSw j3); go_simp; try with_reducible rfl)
    try simp only [Act.put, List.setIfInBounds_toArray, List.set_cons_zero, List.set_cons_succ]
    refine wpAnyHE_take (i := 7) (oi := { dst := some 20, op := Op.load 3 (Operand.tmp 19), type := 3, pos := "job.go:92", after := #[{ on := 6, ground := Ground.data }], guard := none }) (v := ?_) [[7]] rfl (by kernel_rfl) (by kernel_rfl) (by kernel_rfl) (by kernel_rfl) (by kernel_rfl) (fun _ _ _ h => h) (Or.inl ⟨by rfl, ?_⟩) (by assumption) ?_
    rotate_left
    · (intro w hSw; (try dsimp only at hSw); (have t0 := cell_later hSw j1; have t1 := cell_later hSw j3); go_simp; try with_reducible rfl)
    try simp only [Act.put, List.setIfInBounds_toArray, List.set_cons_zero, List.set_cons_succ]
    refine wpAnyHE_ready (rs := [0]) (by kernel_rfl) (by simp) ?_
    refine AllReadyE.cons (o := { dst := some 13, op := Op.call { callee := Callee.value (Operand.func 41), args := #[], argTypes := #[] }, type := 42, pos := "job.go:92", after := #[], guard := none }) rfl (fun KH hKH => ?_) AllReadyE.nil
    go_simp
    (go_at_call 41; refine (folds_any _).mono ?_; rintro e w2 ⟨rfl, hf2, hz2, b2⟩; (first | have c4 := HFO.out _ w1.heap.size hf2 | have c4 := HFO.out _ _ hf2); clear hf2)
    try go_wp2_with fail
    refine hKH.out _ _ ?_ (fun hNew => ?_)
    · (first | exact (Below.refl _ _).drew | exact hHeld.trans (b3.mono hHeld.size) | exact hHeld.trans (b2.mono hHeld.size) | exact hHeld)
    clear hKH KH hHeld
    have hHeld := hNew
    clear hNew
    try simp only [Act.put, List.setIfInBounds_toArray, List.set_cons_zero, List.set_cons_succ]
    refine wpAnyHE_takeP (i := 3) (oi := { dst := some 16, op := Op.indexAddr 42 (Operand.tmp 13) (Operand.tmp 15), type := 0, pos := "job.go:92", after := #[{ on := 0, ground := Ground.data }, { on := 2, ground := Ground.data }], guard := none }) (v := ?_) rfl (by kernel_rfl) (by kernel_rfl) (by kernel_rfl) (fun _ _ _ h => h) (Or.inl ⟨by rfl, ?_⟩) ?_
    rotate_left
    · (intro w _; go_simp; try with_reducible rfl)
    try simp only [Act.put, List.setIfInBounds_toArray, List.set_cons_zero, List.set_cons_succ]
    refine wpAnyHE_ready (rs := [4, 8]) (by kernel_rfl) (by simp) ?_
    refine (AllReadyE.cons (o := { dst := some 17, op := Op.load 9 (Operand.tmp 16), type := 9, pos := "job.go:92", after := #[{ on := 3, ground := Ground.data }], guard := none }) rfl (fun KH hKH => ?_) (AllReadyE.cons (o := { dst := some 21, op := Op.call { callee := Callee.value (Operand.func 42), args := #[Operand.tmp 20], argTypes := #[3] }, type := 9, pos := "job.go:92", after := #[{ on := 7, ground := Ground.data }, { on := 0, ground := Ground.chain }], guard := none }) rfl (fun KH hKH => ?_) AllReadyE.nil))
    · go_simp
      refine hKH.out _ _ ?_ (fun hNew => ?_)
      · (first | exact (Below.refl _ _).drew | exact hHeld.trans (b3.mono hHeld.size) | exact hHeld.trans (b2.mono hHeld.size) | exact hHeld)
      clear hKH KH hHeld
      have hHeld := hNew
      clear hNew
      try simp only [Act.put, List.setIfInBounds_toArray, List.set_cons_zero, List.set_cons_succ]
      refine wpAnyHE_takeP (i := 5) (oi := { dst := some 18, op := Op.binOp BinOp.add 9 (Operand.tmp 17) (Operand.const (Value.string { data := #[32] })) 9, type := 9, pos := "job.go:92", after := #[{ on := 4, ground := Ground.data }], guard := none }) (v := ?_) rfl (by kernel_rfl) (by kernel_rfl) (by kernel_rfl) (fun _ _ _ h => h) (Or.inl ⟨by rfl, ?_⟩) ?_
      rotate_left
      · (intro w _; go_simp; try with_reducible rfl)
      try simp only [Act.put, List.setIfInBounds_toArray, List.set_cons_zero, List.set_cons_succ]
      refine wpAnyHE_ready (rs := [8]) (by kernel_rfl) (by simp) ?_
      refine AllReadyE.cons (o := { dst := some 21, op := Op.call { callee := Callee.value (Operand.func 42), args := #[Operand.tmp 20], argTypes := #[3] }, type := 9, pos := "job.go:92", after := #[{ on := 7, ground := Ground.data }, { on := 0, ground := Ground.chain }], guard := none }) rfl (fun KH hKH => ?_) AllReadyE.nil
      go_simp
      (go_at_call 42; refine (HI.out _ hHeld).mono ?_; rintro e w3 ⟨rfl, b3⟩)
      try replace c4 := (b3.cell hz2).trans c4
      try go_wp2_with fail
      refine hKH.out _ _ ?_ (fun hNew => ?_)
      · (first | exact (Below.refl _ _).drew | exact hHeld.trans (b3.mono hHeld.size) | exact hHeld.trans (b2.mono hHeld.size) | exact hHeld)
      clear hKH KH hHeld
      have hHeld := hNew
      clear hNew
      try simp only [Act.put, List.setIfInBounds_toArray, List.set_cons_zero, List.set_cons_succ]
      refine wpAnyHE_takeP (i := 9) (oi := { dst := some 22, op := Op.binOp BinOp.add 9 (Operand.tmp 18) (Operand.tmp 21) 9, type := 9, pos := "job.go:92", after := #[{ on := 5, ground := Ground.data }, { on := 8, ground := Ground.data }], guard := none }) (v := ?_) rfl (by kernel_rfl) (by kernel_rfl) (by kernel_rfl) (fun _ _ _ h => h) (Or.inl ⟨by rfl, ?_⟩) ?_
      rotate_left
      · (intro w _; go_simp; try with_reducible rfl)
      try simp only [Act.put, List.setIfInBounds_toArray, List.set_cons_zero, List.set_cons_succ]
      refine wpAnyHE_ready (rs := [10]) (by kernel_rfl) (by simp) ?_
      refine AllReadyE.consE (o := { dst := some 5, op := Op.assign (Operand.tmp 22), type := 9, pos := "job.go:92", after := #[{ on := 9, ground := Ground.data }, { on := 8, ground := Ground.chain }, { on := 0, ground := Ground.phase }, { on := 1, ground := Ground.phase }, { on := 2, ground := Ground.phase }, { on := 3, ground := Ground.phase }, { on := 4, ground := Ground.phase }, { on := 5, ground := Ground.phase }, { on := 6, ground := Ground.phase }, { on := 7, ground := Ground.phase }, { on := 8, ground := Ground.phase }, { on := 9, ground := Ground.phase }], guard := none }) rfl (by kernel_rfl) (fun KH hKH => ?_) AllReadyE.nil
      have HBX := hide hHeld
      go_simp
      refine hKH.out _ _ ?_
      clear hKH KH
      try clear hHeld
      try simp only [Act.put, List.setIfInBounds_toArray, List.set_cons_zero, List.set_cons_succ]
      refine wpAnyHE_done (by kernel_rfl) ?_ _
      refine NoPanic.normal ?_
      go_wp2
      go_meet
      exact ⟨by rw [HP.out], HBX⟩
    · go_simp
      (go_at_call 42; refine (HI.out _ hHeld).mono ?_; rintro e w3 ⟨rfl, b3⟩)
      try replace c4 := (b3.cell hz2).trans c4
      try go_wp2_with fail
      refine hKH.out _ _ ?_ (fun hNew => ?_)
      · (first | exact (Below.refl _ _).drew | exact hHeld.trans (b3.mono hHeld.size) | exact hHeld.trans (b2.mono hHeld.size) | exact hHeld)
      clear hKH KH hHeld
      have hHeld := hNew
      clear hNew
      try simp only [Act.put, List.setIfInBounds_toArray, List.set_cons_zero, List.set_cons_succ]
      refine wpAnyHE_ready (rs := [4]) (by kernel_rfl) (by simp) ?_
      refine AllReadyE.cons (o := { dst := some 17, op := Op.load 9 (Operand.tmp 16), type := 9, pos := "job.go:92", after := #[{ on := 3, ground := Ground.data }], guard := none }) rfl (fun KH hKH => ?_) AllReadyE.nil
      go_simp
      refine hKH.out _ _ ?_ (fun hNew => ?_)
      · (first | exact (Below.refl _ _).drew | exact hHeld.trans (b3.mono hHeld.size) | exact hHeld.trans (b2.mono hHeld.size) | exact hHeld)
      clear hKH KH hHeld
      have hHeld := hNew
      clear hNew
      try simp only [Act.put, List.setIfInBounds_toArray, List.set_cons_zero, List.set_cons_succ]
      refine wpAnyHE_takeP (i := 5) (oi := { dst := some 18, op := Op.binOp BinOp.add 9 (Operand.tmp 17) (Operand.const (Value.string { data := #[32] })) 9, type := 9, pos := "job.go:92", after := #[{ on := 4, ground := Ground.data }], guard := none }) (v := ?_) rfl (by kernel_rfl) (by kernel_rfl) (by kernel_rfl) (fun _ _ _ h => h) (Or.inl ⟨by rfl, ?_⟩) ?_
      rotate_left
      · (intro w _; go_simp; try with_reducible rfl)
      try simp only [Act.put, List.setIfInBounds_toArray, List.set_cons_zero, List.set_cons_succ]
      refine wpAnyHE_takeP (i := 9) (oi := { dst := some 22, op := Op.binOp BinOp.add 9 (Operand.tmp 18) (Operand.tmp 21) 9, type := 9, pos := "job.go:92", after := #[{ on := 5, ground := Ground.data }, { on := 8, ground := Ground.data }], guard := none }) (v := ?_) rfl (by kernel_rfl) (by kernel_rfl) (by kernel_rfl) (fun _ _ _ h => h) (Or.inl ⟨by rfl, ?_⟩) ?_
      rotate_left
      · (intro w _; go_simp; try with_reducible rfl)
      try simp only [Act.put, List.setIfInBounds_toArray, List.set_cons_zero, List.set_cons_succ]
      refine wpAnyHE_ready (rs := [10]) (by kernel_rfl) (by simp) ?_
      refine AllReadyE.consE (o := { dst := some 5, op := Op.assign (Operand.tmp 22), type := 9, pos := "job.go:92", after := #[{ on := 9, ground := Ground.data }, { on := 8, ground := Ground.chain }, { on := 0, ground := Ground.phase }, { on := 1, ground := Ground.phase }, { on := 2, ground := Ground.phase }, { on := 3, ground := Ground.phase }, { on := 4, ground := Ground.phase }, { on := 5, ground := Ground.phase }, { on := 6, ground := Ground.phase }, { on := 7, ground := Ground.phase }, { on := 8, ground := Ground.phase }, { on := 9, ground := Ground.phase }], guard := none }) rfl (by kernel_rfl) (fun KH hKH => ?_) AllReadyE.nil
      have HBX := hide hHeld
      go_simp
      refine hKH.out _ _ ?_
      clear hKH KH
      try clear hHeld
      try simp only [Act.put, List.setIfInBounds_toArray, List.set_cons_zero, List.set_cons_succ]
      refine wpAnyHE_done (by kernel_rfl) ?_ _
      refine NoPanic.normal ?_
      go_wp2
      go_meet
      exact ⟨by rw [HP.out], HBX⟩
  case rest =>
  obtain ⟨rfl, HBC⟩ := hcut
  have HBC2 := hide (HB.out.trans (HBC.out.mono HB.out.size))
  replace HBK := hide (HBK.out.later HBC.out)
  replace j0 := cell_later HBC.out j0
  replace j2 := cell_later HBC.out j2
  clear HI HFO HP g0 g1 j1 j3 HBC HB
  have hpl : (tx (foldK m ++ 32 :: Lib.itoa slices)).size ≤ 60 := by
    rw [tx_size] at hfl hil ⊢
    simp only [List.length_append, List.length_cons]; omega
  have HE1 : Hid (early = true → tx (foldK m ++ 32 :: Lib.itoa slices) ++ ⟨#[32, 101, 97, 114, 108, 121]⟩ = tx HD) := fun he => by
    rw [HHD.out, headT, if_pos he]
    apply tl_inj
    rw [tl, tl, tx_list]
    simp [tx, ByteArray.data_append]
  have HE0 : Hid (early = false → tx (foldK m ++ 32 :: Lib.itoa slices) = tx HD) := fun he => by
    rw [HHD.out, headT, if_neg (by rw [he]; decide), List.append_nil]
  generalize tx (foldK m ++ 32 :: Lib.itoa slices) = H0 at *
  have n1 : ¬ 9223372036854775807 < H0.size + 6 := by omega
  go_upto_if 24 with (fail)
  go_cut [5] from 25 to 26 (fun sv wc => sv = .string (tx HD) ∧ Hid (Below w.heap.size w wc) ∧ Hid (Bk wc w.heap.size [.slice ro rs.length rc, .int .i64 m, .bool early, .int .i64 slices]))
  case first =>
    cases early with
    | true =>
      have HE := hide (HE1.out rfl)
      clear HE1 HE0
      go_wp2
      go_meet
      exact ⟨by rw [← HE.out], HBC2, HBK⟩
    | false =>
      have HE := hide (HE0.out rfl)
      clear HE1 HE0
      go_wp2
      go_meet
      exact ⟨by rw [← HE.out], HBC2, HBK⟩
  case rest =>
  clear j0 j2 HBC2 HBK
  obtain ⟨rfl, HB, HBK⟩ := hcut
  clear HE1 HE0 n1 hpl
  have j0 := HBK.out.get (j := 0) rfl
  have hds : (tx HD).size ≤ 60 := by rw [tx_size]; exact hhl
  have n1 : ¬ 9223372036854775807 < (tx HD).size + 1 := by omega
  have hlen : RV.length = rs.length := by rw [HRV.out]; simp
  have HP0 : Hid (tx HD ++ ⟨#[10]⟩ = tx (HD ++ 10 :: linesT (RV.take 0))) := by
    show _ = _
    apply tl_inj
    rw [tl, tl, tx_list]
    simp [tx, ByteArray.data_append, linesT]
  have HSZ : Hid (∀ j, j ≤ RV.length → (tx (HD ++ 10 :: linesT (RV.take j))).size ≤ 40000) := fun j hj => by
    have h1 := linesT_len (RV.take j) fun r hr => HROK.out r (List.mem_of_mem_take hr)
    rw [List.length_take] at h1
    rw [tx_size, List.length_append, List.length_cons]
    omega
  have HLN := hide hlen
  clear hlen
  go_wp2
  rw [HP0.out]
  go_loopw [5, 32] (fun sv iv wr => ∃ j : Nat, j ≤ rs.length ∧ iv = .int .i64 j ∧ sv = .string (tx (HD ++ 10 :: linesT (RV.take j))) ∧ Hid (Below w.heap.size w wr)) (fun _ iv _ => rs.length - (intOf iv).toNat)
  case atStart => exact ⟨0, by omega, rfl, rfl, HB⟩
  case round =>
    clear HP0 n1 HBK HB j0
    obtain ⟨j, hj, rfl, rfl, HB⟩ := hrel
    by_cases hlt : j < rs.length
    · obtain ⟨b, off, r, rfl, hbw, hx, hc⟩ := (HS.out.later HB.out (Nat.le_refl _)).rule hlt
      obtain ⟨d, hrd⟩ := HR.out r (List.mem_of_getElem? hx)
      have hxv : RV[j]? = some r.v := by rw [HRV.out, List.getElem?_map, hx]; rfl
      have hrf : ruleF r.v = 0 := HROK.out _ (List.mem_of_getElem? hxv)
      obtain ⟨z1, z2, z3, z4, z5, z6⟩ := ruleT_len hrf
      have hS0 := HSZ.out j (by rw [HLN.out]; omega)
      have HFIN : Hid (tx (((HD ++ 10 :: linesT (RV.take j)) ++ eachT r.each ++ whenT r.v) ++ [107, 101, 121, 32] ++ textX r.key.tree ++ [32, 118, 97, 108, 32] ++ textX r.val.tree ++ [10]) = tx (HD ++ 10 :: linesT (RV.take (j + 1)))) := by
        show _ = _
        rw [linesT_succ hxv, ruleT]
        simp [RuleR.v]
      obtain ⟨hok, hbl, _⟩ := rule_parts hrf
      have hwn := hok.whn
      have HCO := hide hok.cond
      have HTX := hide hok.txt
      have HKO := hide hok.key
      have HVO := hide hok.val
      have hel : (eachT r.each).length ≤ 5 := by unfold eachT; split <;> decide
      obtain ⟨P0, hP0⟩ : ∃ P0, P0 = HD ++ 10 :: linesT (RV.take j) := ⟨_, rfl⟩
      rw [← hP0] at HFIN hS0 ⊢
      clear hP0
      obtain ⟨wh, hwh⟩ : ∃ wh, r.when_ = wh := ⟨_, rfl⟩
      have hwn2 : wh = 0 ∨ wh = 1 ∨ wh = 2 := by rw [← hwh]; exact hwn
      have HWH := hide hwh
      have k0 : wr.cell? ⟨b, off + j * 15, none⟩ = some (.bool r.each) := hc 0 _ rfl
      have k1 := hc 1 _ rfl
      have k2 := hc 2 _ rfl
      have k3 := hc 3 _ rfl
      have k4 := hc 4 _ rfl
      have k5 := hc 5 _ rfl
      have k6 := hc 6 _ rfl
      have k7 := hc 7 _ rfl
      have k8 := hc 8 _ rfl
      have k9 := hc 9 _ rfl
      have k10 := hc 10 _ rfl
      have k11 := hc 11 _ rfl
      have k12 := hc 12 _ rfl
      have k13 := hc 13 _ rfl
      have k14 := hc 14 _ rfl
      have f1 : (0 : Int) ≤ (j : Int) ∧ (j : Int) < (rs.length : Int) := by omega
      obtain ⟨f1, f2⟩ := f1
      clear hx hxv hrf hc hok hbl hwn hwh
      go_upto_region 11 with (fail)
      have hbA : Below wr.heap.size wr (wr.alloc (.cells #[.bool r.each, .int .i64 r.when_, .int .i64 r.cond.k, .int .i64 r.cond.n, .string r.cond.s, .slice r.cond.ao r.cond.a.length r.cond.cap, .string r.txt, .int .i64 r.key.k, .int .i64 r.key.n, .string r.key.s, .slice r.key.ao r.key.a.length r.key.cap, .int .i64 r.val.k, .int .i64 r.val.n, .string r.val.s, .slice r.val.ao r.val.a.length r.val.cap] 69)) := (Below.refl _ _).alloc (Nat.le_refl _) _
      have hbk2 : Bk (wr.alloc (.cells #[.bool r.each, .int .i64 r.when_, .int .i64 r.cond.k, .int .i64 r.cond.n, .string r.cond.s, .slice r.cond.ao r.cond.a.length r.cond.cap, .string r.txt, .int .i64 r.key.k, .int .i64 r.key.n, .string r.key.s, .slice r.key.ao r.key.a.length r.key.cap, .int .i64 r.val.k, .int .i64 r.val.n, .string r.val.s, .slice r.val.ao r.val.a.length r.val.cap] 69)) wr.heap.size (encRule r) := Bk.new rfl
      replace k0 := hbk2.get (j := 0) rfl
      replace k1 := hbk2.get (j := 1) rfl
      replace k2 := hbk2.get (j := 2) rfl
      replace k3 := hbk2.get (j := 3) rfl
      replace k4 := hbk2.get (j := 4) rfl
      replace k5 := hbk2.get (j := 5) rfl
      replace k6 := hbk2.get (j := 6) rfl
      replace k7 := hbk2.get (j := 7) rfl
      replace k8 := hbk2.get (j := 8) rfl
      replace k9 := hbk2.get (j := 9) rfl
      replace k10 := hbk2.get (j := 10) rfl
      replace k11 := hbk2.get (j := 11) rfl
      replace k12 := hbk2.get (j := 12) rfl
      replace k13 := hbk2.get (j := 13) rfl
      replace k14 := hbk2.get (j := 14) rfl
      have HB2 := hide (HB.out.trans (hbA.mono HB.out.size))
      have HRA := hide fun w' (hb : Below w.heap.size w w') => hrd.later hb (Nat.le_refl _)
      clear hbA hbk2 hrd
      generalize wr.alloc (.cells #[.bool r.each, .int .i64 r.when_, .int .i64 r.cond.k, .int .i64 r.cond.n, .string r.cond.s, .slice r.cond.ao r.cond.a.length r.cond.cap, .string r.txt, .int .i64 r.key.k, .int .i64 r.key.n, .string r.key.s, .slice r.key.ao r.key.a.length r.key.cap, .int .i64 r.val.k, .int .i64 r.val.n, .string r.val.s, .slice r.val.ao r.val.a.length r.val.cap] 69) = W2 at *
      rw [HWH.out] at k1
      obtain ⟨eb, heb⟩ : ∃ eb, r.each = eb := ⟨_, rfl⟩
      have HEB := hide heb
      rw [heb] at k0
      clear heb
      have hPE : (tx (P0 ++ eachT r.each)).size ≤ 40005 := by rw [tx_size] at hS0 ⊢; rw [List.length_append]; omega
      go_upto_if 37 with (fail)
      go_cut [5] from 38 to 39 (fun sv wc => sv = .string (tx (P0 ++ eachT r.each)) ∧ wc = W2)
      case first =>
        have n1 : ¬ 9223372036854775807 < (tx P0).size + 5 := by omega
        cases eb with
        | true =>
          have HE : Hid (tx P0 ++ ⟨#[101, 97, 99, 104, 32]⟩ = tx (P0 ++ eachT r.each)) := by
            show _ = _
            rw [HEB.out]
            apply tl_inj
            rw [tl, tl, tx_list]
            simp [tx, ByteArray.data_append, eachT]
          go_wp2
          go_meet
          exact ⟨by rw [← HE.out], rfl⟩
        | false =>
          have HE : Hid (tx P0 = tx (P0 ++ eachT r.each)) := by show _ = _; rw [HEB.out]; simp [eachT]
          go_wp2
          go_meet
          exact ⟨by rw [← HE.out], rfl⟩
      case rest =>
      obtain ⟨rfl, rfl⟩ := hcut
      have hPW : (tx (P0 ++ eachT r.each ++ whenT r.v)).size ≤ 43105 := by rw [tx_size] at hPE ⊢; rw [List.length_append]; omega
      obtain ⟨P1, hP1⟩ : ∃ P1, P1 = P0 ++ eachT r.each := ⟨_, rfl⟩
      rw [← hP1] at HFIN hPE hPW ⊢
      clear hP1
      have HG2 := hide fun w' (hb : Below wc.heap.size wc w') => HG.out.later (HB2.out.trans (hb.mono HB2.out.size)) (Nat.le_refl _)
      obtain ⟨tb, htb⟩ : ∃ tb, (wh != 0) = tb := ⟨_, rfl⟩
      go_upto_if 42 with (fail)
      have HTB := hide htb
      clear htb
      go_cut [5] from 43 to 59 (fun sv wd => sv = .string (tx (P1 ++ whenT r.v)) ∧ Hid (Below wc.heap.size wc wd))
      case first =>
        by_cases hw0 : wh = 0
        · subst hw0
          obtain rfl : tb = false := by rw [← HTB.out]; rfl
          clear HTB
          have HE : Hid (tx P1 = tx (P1 ++ whenT r.v)) := by
            show _ = _
            rw [whenT, if_pos (show r.v.when_ = 0 from HWH.out), List.append_nil]
          go_wp2
          go_meet
          exact ⟨by rw [← HE.out], Below.refl _ _⟩
        · obtain ⟨mw, hmw⟩ : ∃ mw : Nat, wh = (mw : Int) := ⟨wh.toNat, by omega⟩
          subst hmw
          have hmw2 : mw = 1 ∨ mw = 2 := by omega
          obtain ⟨c1, c2, c3⟩ := HCO.out (by show r.when_ ≠ 0; rw [HWH.out]; exact hw0)
          obtain ⟨NS, hNS⟩ : ∃ NS : List UInt8, NS = if mw = 1 then [115, 97, 109, 101, 32] else [111, 116, 104, 101, 114, 32] := ⟨_, rfl⟩
          have hnl : (tx NS).size ≤ 6 := by rw [tx_size, hNS]; split <;> decide
          have H5 : Hid (∀ w' : World, Below wc.heap.size wc w' → (w'.alloc (.cells #[.string ⟨#[]⟩, .string ⟨#[115, 97, 109, 101, 32]⟩, .string ⟨#[111, 116, 104, 101, 114, 32]⟩] 9)).cell? ⟨w'.heap.size, mw, none⟩ = some (.string (tx NS))) := fun w' _ => by
            rcases hmw2 with rfl | rfl
            · rw [hNS]; exact (Bk.new rfl).get (j := 1) rfl
            · rw [hNS]; exact (Bk.new rfl).get (j := 2) rfl
          have HT := hide fun w' (hb : Below wc.heap.size wc w') => text_any d r.cond.k r.cond.n r.cond.s r.cond.a r.cond.ao r.cond.cap w' true r.each (HG2.out w' hb) (HRA.out w' (HB2.out.trans (hb.mono HB2.out.size))).cond c3 (Nat.le_trans c1 (by decide))
          have HQ := hide fun w' (hb : Below wc.heap.size wc w') => quote_any r.txt w' (HG2.out w' hb).gm (by have : r.txt.size ≤ 20 := HTX.out; omega)
          have HE : Hid (tx P1 ++ ((((tx NS ++ tx (textX (.mk r.cond.k r.cond.n r.cond.s r.cond.a))) ++ ⟨#[32]⟩) ++ tx (quoteL r.txt.data.toList)) ++ ⟨#[32]⟩) = tx (P1 ++ whenT r.v)) := by
            show _ = _
            rw [whenT, if_neg (by show ¬ r.when_ = 0; rw [HWH.out]; exact hw0), hNS]
            have e : (if r.v.when_ = 1 then [115, 97, 109, 101, 32] else [111, 116, 104, 101, 114, (32 : UInt8)]) = if mw = 1 then [115, 97, 109, 101, 32] else [111, 116, 104, 101, 114, 32] := by
              rw [show r.v.when_ = (mw : Int) from HWH.out]
              rcases hmw2 with rfl | rfl <;> rfl
            rw [e]
            apply tl_inj
            rw [tl, tl, tx_list]
            simp [tx, ByteArray.data_append, RuleR.v, ExR.tree]
          have z1' : (tx (textX (.mk r.cond.k r.cond.n r.cond.s r.cond.a))).size ≤ 3030 := by rw [tx_size]; exact z1
          have z4' : (tx (quoteL r.txt.data.toList)).size ≤ 42 := by rw [tx_size]; exact z4
          generalize tx (textX (.mk r.cond.k r.cond.n r.cond.s r.cond.a)) = T0 at *
          generalize tx (quoteL r.txt.data.toList) = Q0 at *
          generalize tx NS = N0 at *
          generalize tx P1 = S1 at *
          have n1 : ¬ 9223372036854775807 < N0.size + T0.size := by omega
          have n2 : ¬ 9223372036854775807 < N0.size + T0.size + 1 := by omega
          have n3 : ¬ 9223372036854775807 < N0.size + T0.size + 1 + Q0.size := by omega
          have n4 : ¬ 9223372036854775807 < N0.size + T0.size + 1 + Q0.size + 1 := by omega
          have n5 : ¬ 9223372036854775807 < S1.size + (N0.size + T0.size + 1 + Q0.size + 1) := by omega
          have g2 : (0 : Int) ≤ (mw : Int) ∧ (mw : Int) < 3 := by omega
          obtain ⟨g2, g3⟩ := g2
          obtain rfl : tb = true := by rw [← HTB.out]; simpa using hw0
          clear HTB
          clear hNS c1 c2 c3
          go_upto_region 14 with (fail)
          refine wp_region_noPanic ?_
          refine wp_region_heldE_drew (S := (fun w' => Below wc.heap.size wc w')) (E := [17]) (by kernel_rfl) ?_ (fun hHeld => ?_)
          · (first | exact (Below.refl _ _).drew | exact hHeld.trans (b4.mono hHeld.size) | exact hHeld.trans (b3.mono hHeld.size) | exact hHeld.alloc hHeld.size _ | exact hHeld)
          try dsimp only [List.size_toArray, List.length_cons, List.length_nil, Nat.reduceAdd]
          refine wpAnyHE_takeP (i := 0) (oi := { dst := some 43, op := Op.move (Operand.tmp 5), type := 9, pos := "job.go:102", after := #[], guard := none }) (v := ?_) rfl (by kernel_rfl) (by kernel_rfl) (by kernel_rfl) (fun _ _ _ h => h) (Or.inl ⟨by rfl, ?_⟩) ?_
          rotate_left
          · (intro w _; go_simp; try with_reducible rfl)
          try simp only [Act.put, List.setIfInBounds_toArray, List.set_cons_zero, List.set_cons_succ]
          refine wpAnyHE_takeP (i := 2) (oi := { dst := some 45, op := Op.fieldAddr 69 (Operand.tmp 7) 1, type := 0, pos := "job.go:102", after := #[], guard := none }) (v := ?_) rfl (by kernel_rfl) (by kernel_rfl) (by kernel_rfl) (fun _ _ _ h => h) (Or.inl ⟨by rfl, ?_⟩) ?_
          rotate_left
          · (intro w _; go_simp; try with_reducible rfl)
          try simp only [Act.put, List.setIfInBounds_toArray, List.set_cons_zero, List.set_cons_succ]
          refine wpAnyHE_takeP (i := 6) (oi := { dst := some 49, op := Op.fieldAddr 69 (Operand.tmp 7) 2, type := 0, pos := "job.go:102", after := #[], guard := none }) (v := ?_) rfl (by kernel_rfl) (by kernel_rfl) (by kernel_rfl) (fun _ _ _ h => h) (Or.inl ⟨by rfl, ?_⟩) ?_
          rotate_left
          · (intro w _; go_simp; try with_reducible rfl)
          try simp only [Act.put, List.setIfInBounds_toArray, List.set_cons_zero, List.set_cons_succ]
          refine wpAnyHE_takeP (i := 11) (oi := { dst := some 54, op := Op.fieldAddr 69 (Operand.tmp 7) 3, type := 0, pos := "job.go:102", after := #[], guard := none }) (v := ?_) rfl (by kernel_rfl) (by kernel_rfl) (by kernel_rfl) (fun _ _ _ h => h) (Or.inl ⟨by rfl, ?_⟩) ?_
          rotate_left
          · (intro w _; go_simp; try with_reducible rfl)
          try simp only [Act.put, List.setIfInBounds_toArray, List.set_cons_zero, List.set_cons_succ]
          refine wpAnyHE_take (i := 3) (oi := { dst := some 46, op := Op.load 3 (Operand.tmp 45), type := 3, pos := "job.go:102", after := #[{ on := 2, ground := Ground.data }], guard := none }) (v := ?_) [[3]] rfl (by kernel_rfl) (by kernel_rfl) (by kernel_rfl) (by kernel_rfl) (by kernel_rfl) (fun _ _ _ h => h) (Or.inl ⟨by rfl, ?_⟩) (by assumption) ?_
          rotate_left
          · (intro w hSw; (try dsimp only at hSw); (have t0 := cell_later hSw k1; have t1 := cell_later hSw k2; have t2 := cell_later hSw k3; have t3 := cell_later hSw k4; have t4 := cell_later hSw k5; have t5 := cell_later hSw k6); go_simp; try with_reducible rfl)
          try simp only [Act.put, List.setIfInBounds_toArray, List.set_cons_zero, List.set_cons_succ]
          refine wpAnyHE_take (i := 7) (oi := { dst := some 50, op := Op.load 67 (Operand.tmp 49), type := 67, pos := "job.go:102", after := #[{ on := 6, ground := Ground.data }], guard := none }) (v := ?_) [[7]] rfl (by kernel_rfl) (by kernel_rfl) (by kernel_rfl) (by kernel_rfl) (by kernel_rfl) (fun _ _ _ h => h) (Or.inl ⟨by rfl, ?_⟩) (by assumption) ?_
          rotate_left
          · (intro w hSw; (try dsimp only at hSw); (have t0 := cell_later hSw k1; have t1 := cell_later hSw k2; have t2 := cell_later hSw k3; have t3 := cell_later hSw k4; have t4 := cell_later hSw k5; have t5 := cell_later hSw k6); go_simp; try with_reducible rfl)
          try simp only [Act.put, List.setIfInBounds_toArray, List.set_cons_zero, List.set_cons_succ]
          refine wpAnyHE_take (i := 12) (oi := { dst := some 55, op := Op.load 9 (Operand.tmp 54), type := 9, pos := "job.go:102", after := #[{ on := 11, ground := Ground.data }], guard := none }) (v := ?_) [[12]] rfl (by kernel_rfl) (by kernel_rfl) (by kernel_rfl) (by kernel_rfl) (by kernel_rfl) (fun _ _ _ h => h) (Or.inl ⟨by rfl, ?_⟩) (by assumption) ?_
          rotate_left
          · (intro w hSw; (try dsimp only at hSw); (have t0 := cell_later hSw k1; have t1 := cell_later hSw k2; have t2 := cell_later hSw k3; have t3 := cell_later hSw k4; have t4 := cell_later hSw k5; have t5 := cell_later hSw k6); go_simp; try with_reducible rfl)
          try simp only [Act.put, List.setIfInBounds_toArray, List.set_cons_zero, List.set_cons_succ]
          refine wpAnyHE_ready (rs := [1, 8]) (by kernel_rfl) (by simp) ?_
          refine (AllReadyE.cons (o := { dst := some 44, op := Op.buildSlice 42 3 #[(0, Operand.const (Value.string { data := #[] })), (1, Operand.const (Value.string { data := #[115, 97, 109, 101, 32] })), (2, Operand.const (Value.string { data := #[111, 116, 104, 101, 114, 32] }))], type := 42, pos := "job.go:102", after := #[], guard := none }) rfl (fun KH hKH => ?_) (AllReadyE.cons (o := { dst := some 51, op := Op.call { callee := Callee.value (Operand.func 43), args := #[Operand.tmp 50], argTypes := #[67] }, type := 9, pos := "job.go:102", after := #[{ on := 7, ground := Ground.data }], guard := none }) rfl (fun KH hKH => ?_) AllReadyE.nil))
          · go_simp
            first | (have hx5 : Below wc.heap.size wc wc.drew := hHeld; have c5 := H5.out wc (Below.refl _ _)) | have c5 := H5.out _ hHeld
            refine hKH.out _ _ ?_ (fun hNew => ?_)
            · (first | exact (Below.refl _ _).drew | exact hHeld.trans (b4.mono hHeld.size) | exact hHeld.trans (b3.mono hHeld.size) | exact hHeld.alloc hHeld.size _ | exact hHeld)
            clear hKH KH hHeld
            have hHeld := hNew
            clear hNew
            try simp only [Act.put, List.setIfInBounds_toArray, List.set_cons_zero, List.set_cons_succ]
            refine wpAnyHE_takeP (i := 4) (oi := { dst := some 47, op := Op.indexAddr 42 (Operand.tmp 44) (Operand.tmp 46), type := 0, pos := "job.go:102", after := #[{ on := 1, ground := Ground.data }, { on := 3, ground := Ground.data }], guard := none }) (v := ?_) rfl (by kernel_rfl) (by kernel_rfl) (by kernel_rfl) (fun _ _ _ h => h) (Or.inl ⟨by rfl, ?_⟩) ?_
            rotate_left
            · (intro w _; go_simp; try with_reducible rfl)
            try simp only [Act.put, List.setIfInBounds_toArray, List.set_cons_zero, List.set_cons_succ]
            refine wpAnyHE_ready (rs := [5, 8]) (by kernel_rfl) (by simp) ?_
            refine (AllReadyE.cons (o := { dst := some 48, op := Op.load 9 (Operand.tmp 47), type := 9, pos := "job.go:102", after := #[{ on := 4, ground := Ground.data }], guard := none }) rfl (fun KH hKH => ?_) (AllReadyE.cons (o := { dst := some 51, op := Op.call { callee := Callee.value (Operand.func 43), args := #[Operand.tmp 50], argTypes := #[67] }, type := 9, pos := "job.go:102", after := #[{ on := 7, ground := Ground.data }], guard := none }) rfl (fun KH hKH => ?_) AllReadyE.nil))
            · go_simp
              refine hKH.out _ _ ?_ (fun hNew => ?_)
              · (first | exact (Below.refl _ _).drew | exact hHeld.trans (b4.mono hHeld.size) | exact hHeld.trans (b3.mono hHeld.size) | exact hHeld.alloc hHeld.size _ | exact hHeld)
              clear hKH KH hHeld
              have hHeld := hNew
              clear hNew
              try simp only [Act.put, List.setIfInBounds_toArray, List.set_cons_zero, List.set_cons_succ]
              refine wpAnyHE_ready (rs := [8]) (by kernel_rfl) (by simp) ?_
              refine AllReadyE.cons (o := { dst := some 51, op := Op.call { callee := Callee.value (Operand.func 43), args := #[Operand.tmp 50], argTypes := #[67] }, type := 9, pos := "job.go:102", after := #[{ on := 7, ground := Ground.data }], guard := none }) rfl (fun KH hKH => ?_) AllReadyE.nil
              go_simp
              (go_at_call 43; refine (HT.out _ hHeld).mono ?_; rintro e w3 ⟨rfl, b3⟩)
              try replace c5 := cell_later b3 c5
              try go_wp2_with fail
              refine hKH.out _ _ ?_ (fun hNew => ?_)
              · (first | exact (Below.refl _ _).drew | exact hHeld.trans (b4.mono hHeld.size) | exact hHeld.trans (b3.mono hHeld.size) | exact hHeld.alloc hHeld.size _ | exact hHeld)
              clear hKH KH hHeld
              have hHeld := hNew
              clear hNew
              try simp only [Act.put, List.setIfInBounds_toArray, List.set_cons_zero, List.set_cons_succ]
              refine wpAnyHE_takeP (i := 9) (oi := { dst := some 52, op := Op.binOp BinOp.add 9 (Operand.tmp 48) (Operand.tmp 51) 9, type := 9, pos := "job.go:102", after := #[{ on := 5, ground := Ground.data }, { on := 8, ground := Ground.data }], guard := none }) (v := ?_) rfl (by kernel_rfl) (by kernel_rfl) (by kernel_rfl) (fun _ _ _ h => h) (Or.inl ⟨by rfl, ?_⟩) ?_
              rotate_left
              · (intro w _; go_simp; try with_reducible rfl)
              try simp only [Act.put, List.setIfInBounds_toArray, List.set_cons_zero, List.set_cons_succ]
              refine wpAnyHE_takeP (i := 10) (oi := { dst := some 53, op := Op.binOp BinOp.add 9 (Operand.tmp 52) (Operand.const (Value.string { data := #[32] })) 9, type := 9, pos := "job.go:102", after := #[{ on := 9, ground := Ground.data }], guard := none }) (v := ?_) rfl (by kernel_rfl) (by kernel_rfl) (by kernel_rfl) (fun _ _ _ h => h) (Or.inl ⟨by rfl, ?_⟩) ?_
              rotate_left
              · (intro w _; go_simp; try with_reducible rfl)
              try simp only [Act.put, List.setIfInBounds_toArray, List.set_cons_zero, List.set_cons_succ]
              refine wpAnyHE_ready (rs := [13]) (by kernel_rfl) (by simp) ?_
              refine AllReadyE.cons (o := { dst := some 56, op := Op.call { callee := Callee.value (Operand.func 44), args := #[Operand.tmp 55], argTypes := #[9] }, type := 9, pos := "job.go:102", after := #[{ on := 12, ground := Ground.data }, { on := 8, ground := Ground.chain }], guard := none }) rfl (fun KH hKH => ?_) AllReadyE.nil
              go_simp
              (go_at_call 44; refine (HQ.out _ hHeld).mono ?_; rintro e w4 ⟨rfl, b4⟩)
              try replace c5 := cell_later b4 c5
              try go_wp2_with fail
              refine hKH.out _ _ ?_ (fun hNew => ?_)
              · (first | exact (Below.refl _ _).drew | exact hHeld.trans (b4.mono hHeld.size) | exact hHeld.trans (b3.mono hHeld.size) | exact hHeld.alloc hHeld.size _ | exact hHeld)
              clear hKH KH hHeld
              have hHeld := hNew
              clear hNew
              try simp only [Act.put, List.setIfInBounds_toArray, List.set_cons_zero, List.set_cons_succ]
              refine wpAnyHE_takeP (i := 14) (oi := { dst := some 57, op := Op.binOp BinOp.add 9 (Operand.tmp 53) (Operand.tmp 56) 9, type := 9, pos := "job.go:102", after := #[{ on := 10, ground := Ground.data }, { on := 13, ground := Ground.data }], guard := none }) (v := ?_) rfl (by kernel_rfl) (by kernel_rfl) (by kernel_rfl) (fun _ _ _ h => h) (Or.inl ⟨by rfl, ?_⟩) ?_
              rotate_left
              · (intro w _; go_simp; try with_reducible rfl)
              try simp only [Act.put, List.setIfInBounds_toArray, List.set_cons_zero, List.set_cons_succ]
              refine wpAnyHE_takeP (i := 15) (oi := { dst := some 58, op := Op.binOp BinOp.add 9 (Operand.tmp 57) (Operand.const (Value.string { data := #[32] })) 9, type := 9, pos := "job.go:102", after := #[{ on := 14, ground := Ground.data }], guard := none }) (v := ?_) rfl (by kernel_rfl) (by kernel_rfl) (by kernel_rfl) (fun _ _ _ h => h) (Or.inl ⟨by rfl, ?_⟩) ?_
              rotate_left
              · (intro w _; go_simp; try with_reducible rfl)
              try simp only [Act.put, List.setIfInBounds_toArray, List.set_cons_zero, List.set_cons_succ]
              refine wpAnyHE_takeP (i := 16) (oi := { dst := some 59, op := Op.binOp BinOp.add 9 (Operand.tmp 43) (Operand.tmp 58) 9, type := 9, pos := "job.go:102", after := #[{ on := 0, ground := Ground.data }, { on := 15, ground := Ground.data }], guard := none }) (v := ?_) rfl (by kernel_rfl) (by kernel_rfl) (by kernel_rfl) (fun _ _ _ h => h) (Or.inl ⟨by rfl, ?_⟩) ?_
              rotate_left
              · (intro w _; go_simp; try with_reducible rfl)
              try simp only [Act.put, List.setIfInBounds_toArray, List.set_cons_zero, List.set_cons_succ]
              refine wpAnyHE_ready (rs := [17]) (by kernel_rfl) (by simp) ?_
              refine AllReadyE.consE (o := { dst := some 5, op := Op.assign (Operand.tmp 59), type := 9, pos := "job.go:102", after := #[{ on := 16, ground := Ground.data }, { on := 13, ground := Ground.chain }, { on := 0, ground := Ground.phase }, { on := 1, ground := Ground.phase }, { on := 2, ground := Ground.phase }, { on := 3, ground := Ground.phase }, { on := 4, ground := Ground.phase }, { on := 5, ground := Ground.phase }, { on := 6, ground := Ground.phase }, { on := 7, ground := Ground.phase }, { on := 8, ground := Ground.phase }, { on := 9, ground := Ground.phase }, { on := 10, ground := Ground.phase }, { on := 11, ground := Ground.phase }, { on := 12, ground := Ground.phase }, { on := 13, ground := Ground.phase }, { on := 14, ground := Ground.phase }, { on := 15, ground := Ground.phase }, { on := 16, ground := Ground.phase }], guard := none }) rfl (by kernel_rfl) (fun KH hKH => ?_) AllReadyE.nil
              have HBX := hide hHeld
              go_simp
              refine hKH.out _ _ ?_
              clear hKH KH
              try clear hHeld
              try simp only [Act.put, List.setIfInBounds_toArray, List.set_cons_zero, List.set_cons_succ]
              refine wpAnyHE_done (by kernel_rfl) ?_ _
              refine NoPanic.normal ?_
              go_wp2
              go_meet
              exact ⟨by rw [← HE.out], HBX⟩
            · go_simp
              (go_at_call 43; refine (HT.out _ hHeld).mono ?_; rintro e w3 ⟨rfl, b3⟩)
              try replace c5 := cell_later b3 c5
              try go_wp2_with fail
              refine hKH.out _ _ ?_ (fun hNew => ?_)
              · (first | exact (Below.refl _ _).drew | exact hHeld.trans (b4.mono hHeld.size) | exact hHeld.trans (b3.mono hHeld.size) | exact hHeld.alloc hHeld.size _ | exact hHeld)
              clear hKH KH hHeld
              have hHeld := hNew
              clear hNew
              try simp only [Act.put, List.setIfInBounds_toArray, List.set_cons_zero, List.set_cons_succ]
              refine wpAnyHE_ready (rs := [5, 13]) (by kernel_rfl) (by simp) ?_
              refine (AllReadyE.cons (o := { dst := some 48, op := Op.load 9 (Operand.tmp 47), type := 9, pos := "job.go:102", after := #[{ on := 4, ground := Ground.data }], guard := none }) rfl (fun KH hKH => ?_) (AllReadyE.cons (o := { dst := some 56, op := Op.call { callee := Callee.value (Operand.func 44), args := #[Operand.tmp 55], argTypes := #[9] }, type := 9, pos := "job.go:102", after := #[{ on := 12, ground := Ground.data }, { on := 8, ground := Ground.chain }], guard := none }) rfl (fun KH hKH => ?_) AllReadyE.nil))
              · go_simp
                refine hKH.out _ _ ?_ (fun hNew => ?_)
                · (first | exact (Below.refl _ _).drew | exact hHeld.trans (b4.mono hHeld.size) | exact hHeld.trans (b3.mono hHeld.size) | exact hHeld.alloc hHeld.size _ | exact hHeld)
                clear hKH KH hHeld
                have hHeld := hNew
                clear hNew
                try simp only [Act.put, List.setIfInBounds_toArray, List.set_cons_zero, List.set_cons_succ]
                refine wpAnyHE_takeP (i := 9) (oi := { dst := some 52, op := Op.binOp BinOp.add 9 (Operand.tmp 48) (Operand.tmp 51) 9, type := 9, pos := "job.go:102", after := #[{ on := 5, ground := Ground.data }, { on := 8, ground := Ground.data }], guard := none }) (v := ?_) rfl (by kernel_rfl) (by kernel_rfl) (by kernel_rfl) (fun _ _ _ h => h) (Or.inl ⟨by rfl, ?_⟩) ?_
                rotate_left
                · (intro w _; go_simp; try with_reducible rfl)
                try simp only [Act.put, List.setIfInBounds_toArray, List.set_cons_zero, List.set_cons_succ]
                refine wpAnyHE_takeP (i := 10) (oi := { dst := some 53, op := Op.binOp BinOp.add 9 (Operand.tmp 52) (Operand.const (Value.string { data := #[32] })) 9, type := 9, pos := "job.go:102", after := #[{ on := 9, ground := Ground.data }], guard := none }) (v := ?_) rfl (by kernel_rfl) (by kernel_rfl) (by kernel_rfl) (fun _ _ _ h => h) (Or.inl ⟨by rfl, ?_⟩) ?_
                rotate_left
                · (intro w _; go_simp; try with_reducible rfl)
                try simp only [Act.put, List.setIfInBounds_toArray, List.set_cons_zero, List.set_cons_succ]
                refine wpAnyHE_ready (rs := [13]) (by kernel_rfl) (by simp) ?_
                refine AllReadyE.cons (o := { dst := some 56, op := Op.call { callee := Callee.value (Operand.func 44), args := #[Operand.tmp 55], argTypes := #[9] }, type := 9, pos := "job.go:102", after := #[{ on := 12, ground := Ground.data }, { on := 8, ground := Ground.chain }], guard := none }) rfl (fun KH hKH => ?_) AllReadyE.nil
                go_simp
                (go_at_call 44; refine (HQ.out _ hHeld).mono ?_; rintro e w4 ⟨rfl, b4⟩)
                try replace c5 := cell_later b4 c5
                try go_wp2_with fail
                refine hKH.out _ _ ?_ (fun hNew => ?_)
                · (first | exact (Below.refl _ _).drew | exact hHeld.trans (b4.mono hHeld.size) | exact hHeld.trans (b3.mono hHeld.size) | exact hHeld.alloc hHeld.size _ | exact hHeld)
                clear hKH KH hHeld
                have hHeld := hNew
                clear hNew
                try simp only [Act.put, List.setIfInBounds_toArray, List.set_cons_zero, List.set_cons_succ]
                refine wpAnyHE_takeP (i := 14) (oi := { dst := some 57, op := Op.binOp BinOp.add 9 (Operand.tmp 53) (Operand.tmp 56) 9, type := 9, pos := "job.go:102", after := #[{ on := 10, ground := Ground.data }, { on := 13, ground := Ground.data }], guard := none }) (v := ?_) rfl (by kernel_rfl) (by kernel_rfl) (by kernel_rfl) (fun _ _ _ h => h) (Or.inl ⟨by rfl, ?_⟩) ?_
                rotate_left
                · (intro w _; go_simp; try with_reducible rfl)
                try simp only [Act.put, List.setIfInBounds_toArray, List.set_cons_zero, List.set_cons_succ]
                refine wpAnyHE_takeP (i := 15) (oi := { dst := some 58, op := Op.binOp BinOp.add 9 (Operand.tmp 57) (Operand.const (Value.string { data := #[32] })) 9, type := 9, pos := "job.go:102", after := #[{ on := 14, ground := Ground.data }], guard := none }) (v := ?_) rfl (by kernel_rfl) (by kernel_rfl) (by kernel_rfl) (fun _ _ _ h => h) (Or.inl ⟨by rfl, ?_⟩) ?_
                rotate_left
                · (intro w _; go_simp; try with_reducible rfl)
                try simp only [Act.put, List.setIfInBounds_toArray, List.set_cons_zero, List.set_cons_succ]
                refine wpAnyHE_takeP (i := 16) (oi := { dst := some 59, op := Op.binOp BinOp.add 9 (Operand.tmp 43) (Operand.tmp 58) 9, type := 9, pos := "job.go:102", after := #[{ on := 0, ground := Ground.data }, { on := 15, ground := Ground.data }], guard := none }) (v := ?_) rfl (by kernel_rfl) (by kernel_rfl) (by kernel_rfl) (fun _ _ _ h => h) (Or.inl ⟨by rfl, ?_⟩) ?_
                rotate_left
                · (intro w _; go_simp; try with_reducible rfl)
                try simp only [Act.put, List.setIfInBounds_toArray, List.set_cons_zero, List.set_cons_succ]
                refine wpAnyHE_ready (rs := [17]) (by kernel_rfl) (by simp) ?_
                refine AllReadyE.consE (o := { dst := some 5, op := Op.assign (Operand.tmp 59), type := 9, pos := "job.go:102", after := #[{ on := 16, ground := Ground.data }, { on := 13, ground := Ground.chain }, { on := 0, ground := Ground.phase }, { on := 1, ground := Ground.phase }, { on := 2, ground := Ground.phase }, { on := 3, ground := Ground.phase }, { on := 4, ground := Ground.phase }, { on := 5, ground := Ground.phase }, { on := 6, ground := Ground.phase }, { on := 7, ground := Ground.phase }, { on := 8, ground := Ground.phase }, { on := 9, ground := Ground.phase }, { on := 10, ground := Ground.phase }, { on := 11, ground := Ground.phase }, { on := 12, ground := Ground.phase }, { on := 13, ground := Ground.phase }, { on := 14, ground := Ground.phase }, { on := 15, ground := Ground.phase }, { on := 16, ground := Ground.phase }], guard := none }) rfl (by kernel_rfl) (fun KH hKH => ?_) AllReadyE.nil
                have HBX := hide hHeld
                go_simp
                refine hKH.out _ _ ?_
                clear hKH KH
                try clear hHeld
                try simp only [Act.put, List.setIfInBounds_toArray, List.set_cons_zero, List.set_cons_succ]
                refine wpAnyHE_done (by kernel_rfl) ?_ _
                refine NoPanic.normal ?_
                go_wp2
                go_meet
                exact ⟨by rw [← HE.out], HBX⟩
              · go_simp
                (go_at_call 44; refine (HQ.out _ hHeld).mono ?_; rintro e w4 ⟨rfl, b4⟩)
                try replace c5 := cell_later b4 c5
                try go_wp2_with fail
                refine hKH.out _ _ ?_ (fun hNew => ?_)
                · (first | exact (Below.refl _ _).drew | exact hHeld.trans (b4.mono hHeld.size) | exact hHeld.trans (b3.mono hHeld.size) | exact hHeld.alloc hHeld.size _ | exact hHeld)
                clear hKH KH hHeld
                have hHeld := hNew
                clear hNew
                try simp only [Act.put, List.setIfInBounds_toArray, List.set_cons_zero, List.set_cons_succ]
                refine wpAnyHE_ready (rs := [5]) (by kernel_rfl) (by simp) ?_
                refine AllReadyE.cons (o := { dst := some 48, op := Op.load 9 (Operand.tmp 47), type := 9, pos := "job.go:102", after := #[{ on := 4, ground := Ground.data }], guard := none }) rfl (fun KH hKH => ?_) AllReadyE.nil
                go_simp
                refine hKH.out _ _ ?_ (fun hNew => ?_)
                · (first | exact (Below.refl _ _).drew | exact hHeld.trans (b4.mono hHeld.size) | exact hHeld.trans (b3.mono hHeld.size) | exact hHeld.alloc hHeld.size _ | exact hHeld)
                clear hKH KH hHeld
                have hHeld := hNew
                clear hNew
                try simp only [Act.put, List.setIfInBounds_toArray, List.set_cons_zero, List.set_cons_succ]
                refine wpAnyHE_takeP (i := 9) (oi := { dst := some 52, op := Op.binOp BinOp.add 9 (Operand.tmp 48) (Operand.tmp 51) 9, type := 9, pos := "job.go:102", after := #[{ on := 5, ground := Ground.data }, { on := 8, ground := Ground.data }], guard := none }) (v := ?_) rfl (by kernel_rfl) (by kernel_rfl) (by kernel_rfl) (fun _ _ _ h => h) (Or.inl ⟨by rfl, ?_⟩) ?_
                rotate_left
                · (intro w _; go_simp; try with_reducible rfl)
                try simp only [Act.put, List.setIfInBounds_toArray, List.set_cons_zero, List.set_cons_succ]
                refine wpAnyHE_takeP (i := 10) (oi := { dst := some 53, op := Op.binOp BinOp.add 9 (Operand.tmp 52) (Operand.const (Value.string { data := #[32] })) 9, type := 9, pos := "job.go:102", after := #[{ on := 9, ground := Ground.data }], guard := none }) (v := ?_) rfl (by kernel_rfl) (by kernel_rfl) (by kernel_rfl) (fun _ _ _ h => h) (Or.inl ⟨by rfl, ?_⟩) ?_
                rotate_left
                · (intro w _; go_simp; try with_reducible rfl)
                try simp only [Act.put, List.setIfInBounds_toArray, List.set_cons_zero, List.set_cons_succ]
                refine wpAnyHE_takeP (i := 14) (oi := { dst := some 57, op := Op.binOp BinOp.add 9 (Operand.tmp 53) (Operand.tmp 56) 9, type := 9, pos := "job.go:102", after := #[{ on := 10, ground := Ground.data }, { on := 13, ground := Ground.data }], guard := none }) (v := ?_) rfl (by kernel_rfl) (by kernel_rfl) (by kernel_rfl) (fun _ _ _ h => h) (Or.inl ⟨by rfl, ?_⟩) ?_
                rotate_left
                · (intro w _; go_simp; try with_reducible rfl)
                try simp only [Act.put, List.setIfInBounds_toArray, List.set_cons_zero, List.set_cons_succ]
                refine wpAnyHE_takeP (i := 15) (oi := { dst := some 58, op := Op.binOp BinOp.add 9 (Operand.tmp 57) (Operand.const (Value.string { data := #[32] })) 9, type := 9, pos := "job.go:102", after := #[{ on := 14, ground := Ground.data }], guard := none }) (v := ?_) rfl (by kernel_rfl) (by kernel_rfl) (by kernel_rfl) (fun _ _ _ h => h) (Or.inl ⟨by rfl, ?_⟩) ?_
                rotate_left
                · (intro w _; go_simp; try with_reducible rfl)
                try simp only [Act.put, List.setIfInBounds_toArray, List.set_cons_zero, List.set_cons_succ]
                refine wpAnyHE_takeP (i := 16) (oi := { dst := some 59, op := Op.binOp BinOp.add 9 (Operand.tmp 43) (Operand.tmp 58) 9, type := 9, pos := "job.go:102", after := #[{ on := 0, ground := Ground.data }, { on := 15, ground := Ground.data }], guard := none }) (v := ?_) rfl (by kernel_rfl) (by kernel_rfl) (by kernel_rfl) (fun _ _ _ h => h) (Or.inl ⟨by rfl, ?_⟩) ?_
                rotate_left
                · (intro w _; go_simp; try with_reducible rfl)
                try simp only [Act.put, List.setIfInBounds_toArray, List.set_cons_zero, List.set_cons_succ]
                refine wpAnyHE_ready (rs := [17]) (by kernel_rfl) (by simp) ?_
                refine AllReadyE.consE (o := { dst := some 5, op := Op.assign (Operand.tmp 59), type := 9, pos := "job.go:102", after := #[{ on := 16, ground := Ground.data }, { on := 13, ground := Ground.chain }, { on := 0, ground := Ground.phase }, { on := 1, ground := Ground.phase }, { on := 2, ground := Ground.phase }, { on := 3, ground := Ground.phase }, { on := 4, ground := Ground.phase }, { on := 5, ground := Ground.phase }, { on := 6, ground := Ground.phase }, { on := 7, ground := Ground.phase }, { on := 8, ground := Ground.phase }, { on := 9, ground := Ground.phase }, { on := 10, ground := Ground.phase }, { on := 11, ground := Ground.phase }, { on := 12, ground := Ground.phase }, { on := 13, ground := Ground.phase }, { on := 14, ground := Ground.phase }, { on := 15, ground := Ground.phase }, { on := 16, ground := Ground.phase }], guard := none }) rfl (by kernel_rfl) (fun KH hKH => ?_) AllReadyE.nil
                have HBX := hide hHeld
                go_simp
                refine hKH.out _ _ ?_
                clear hKH KH
                try clear hHeld
                try simp only [Act.put, List.setIfInBounds_toArray, List.set_cons_zero, List.set_cons_succ]
                refine wpAnyHE_done (by kernel_rfl) ?_ _
                refine NoPanic.normal ?_
                go_wp2
                go_meet
                exact ⟨by rw [← HE.out], HBX⟩
          · go_simp
            (go_at_call 43; refine (HT.out _ hHeld).mono ?_; rintro e w3 ⟨rfl, b3⟩)
            try replace c5 := cell_later b3 c5
            try go_wp2_with fail
            refine hKH.out _ _ ?_ (fun hNew => ?_)
            · (first | exact (Below.refl _ _).drew | exact hHeld.trans (b4.mono hHeld.size) | exact hHeld.trans (b3.mono hHeld.size) | exact hHeld.alloc hHeld.size _ | exact hHeld)
            clear hKH KH hHeld
            have hHeld := hNew
            clear hNew
            try simp only [Act.put, List.setIfInBounds_toArray, List.set_cons_zero, List.set_cons_succ]
            refine wpAnyHE_ready (rs := [1, 13]) (by kernel_rfl) (by simp) ?_
            refine (AllReadyE.cons (o := { dst := some 44, op := Op.buildSlice 42 3 #[(0, Operand.const (Value.string { data := #[] })), (1, Operand.const (Value.string { data := #[115, 97, 109, 101, 32] })), (2, Operand.const (Value.string { data := #[111, 116, 104, 101, 114, 32] }))], type := 42, pos := "job.go:102", after := #[], guard := none }) rfl (fun KH hKH => ?_) (AllReadyE.cons (o := { dst := some 56, op := Op.call { callee := Callee.value (Operand.func 44), args := #[Operand.tmp 55], argTypes := #[9] }, type := 9, pos := "job.go:102", after := #[{ on := 12, ground := Ground.data }, { on := 8, ground := Ground.chain }], guard := none }) rfl (fun KH hKH => ?_) AllReadyE.nil))
            · go_simp
              first | (have hx5 : Below wc.heap.size wc wc.drew := hHeld; have c5 := H5.out wc (Below.refl _ _)) | have c5 := H5.out _ hHeld
              refine hKH.out _ _ ?_ (fun hNew => ?_)
              · (first | exact (Below.refl _ _).drew | exact hHeld.trans (b4.mono hHeld.size) | exact hHeld.trans (b3.mono hHeld.size) | exact hHeld.alloc hHeld.size _ | exact hHeld)
              clear hKH KH hHeld
              have hHeld := hNew
              clear hNew
              try simp only [Act.put, List.setIfInBounds_toArray, List.set_cons_zero, List.set_cons_succ]
              refine wpAnyHE_takeP (i := 4) (oi := { dst := some 47, op := Op.indexAddr 42 (Operand.tmp 44) (Operand.tmp 46), type := 0, pos := "job.go:102", after := #[{ on := 1, ground := Ground.data }, { on := 3, ground := Ground.data }], guard := none }) (v := ?_) rfl (by kernel_rfl) (by kernel_rfl) (by kernel_rfl) (fun _ _ _ h => h) (Or.inl ⟨by rfl, ?_⟩) ?_
              rotate_left
              · (intro w _; go_simp; try with_reducible rfl)
              try simp only [Act.put, List.setIfInBounds_toArray, List.set_cons_zero, List.set_cons_succ]
              refine wpAnyHE_ready (rs := [5, 13]) (by kernel_rfl) (by simp) ?_
              refine (AllReadyE.cons (o := { dst := some 48, op := Op.load 9 (Operand.tmp 47), type := 9, pos := "job.go:102", after := #[{ on := 4, ground := Ground.data }], guard := none }) rfl (fun KH hKH => ?_) (AllReadyE.cons (o := { dst := some 56, op := Op.call { callee := Callee.value (Operand.func 44), args := #[Operand.tmp 55], argTypes := #[9] }, type := 9, pos := "job.go:102", after := #[{ on := 12, ground := Ground.data }, { on := 8, ground := Ground.chain }], guard := none }) rfl (fun KH hKH => ?_) AllReadyE.nil))
              · go_simp
                refine hKH.out _ _ ?_ (fun hNew => ?_)
                · (first | exact (Below.refl _ _).drew | exact hHeld.trans (b4.mono hHeld.size) | exact hHeld.trans (b3.mono hHeld.size) | exact hHeld.alloc hHeld.size _ | exact hHeld)
                clear hKH KH hHeld
                have hHeld := hNew
                clear hNew
                try simp only [Act.put, List.setIfInBounds_toArray, List.set_cons_zero, List.set_cons_succ]
                refine wpAnyHE_takeP (i := 9) (oi := { dst := some 52, op := Op.binOp BinOp.add 9 (Operand.tmp 48) (Operand.tmp 51) 9, type := 9, pos := "job.go:102", after := #[{ on := 5, ground := Ground.data }, { on := 8, ground := Ground.data }], guard := none }) (v := ?_) rfl (by kernel_rfl) (by kernel_rfl) (by kernel_rfl) (fun _ _ _ h => h) (Or.inl ⟨by rfl, ?_⟩) ?_
                rotate_left
                · (intro w _; go_simp; try with_reducible rfl)
                try simp only [Act.put, List.setIfInBounds_toArray, List.set_cons_zero, List.set_cons_succ]
                refine wpAnyHE_takeP (i := 10) (oi := { dst := some 53, op := Op.binOp BinOp.add 9 (Operand.tmp 52) (Operand.const (Value.string { data := #[32] })) 9, type := 9, pos := "job.go:102", after := #[{ on := 9, ground := Ground.data }], guard := none }) (v := ?_) rfl (by kernel_rfl) (by kernel_rfl) (by kernel_rfl) (fun _ _ _ h => h) (Or.inl ⟨by rfl, ?_⟩) ?_
                rotate_left
                · (intro w _; go_simp; try with_reducible rfl)
                try simp only [Act.put, List.setIfInBounds_toArray, List.set_cons_zero, List.set_cons_succ]
                refine wpAnyHE_ready (rs := [13]) (by kernel_rfl) (by simp) ?_
                refine AllReadyE.cons (o := { dst := some 56, op := Op.call { callee := Callee.value (Operand.func 44), args := #[Operand.tmp 55], argTypes := #[9] }, type := 9, pos := "job.go:102", after := #[{ on := 12, ground := Ground.data }, { on := 8, ground := Ground.chain }], guard := none }) rfl (fun KH hKH => ?_) AllReadyE.nil
                go_simp
                (go_at_call 44; refine (HQ.out _ hHeld).mono ?_; rintro e w4 ⟨rfl, b4⟩)
                try replace c5 := cell_later b4 c5
                try go_wp2_with fail
                refine hKH.out _ _ ?_ (fun hNew => ?_)
                · (first | exact (Below.refl _ _).drew | exact hHeld.trans (b4.mono hHeld.size) | exact hHeld.trans (b3.mono hHeld.size) | exact hHeld.alloc hHeld.size _ | exact hHeld)
                clear hKH KH hHeld
                have hHeld := hNew
                clear hNew
                try simp only [Act.put, List.setIfInBounds_toArray, List.set_cons_zero, List.set_cons_succ]
                refine wpAnyHE_takeP (i := 14) (oi := { dst := some 57, op := Op.binOp BinOp.add 9 (Operand.tmp 53) (Operand.tmp 56) 9, type := 9, pos := "job.go:102", after := #[{ on := 10, ground := Ground.data }, { on := 13, ground := Ground.data }], guard := none }) (v := ?_) rfl (by kernel_rfl) (by kernel_rfl) (by kernel_rfl) (fun _ _ _ h => h) (Or.inl ⟨by rfl, ?_⟩) ?_
                rotate_left
                · (intro w _; go_simp; try with_reducible rfl)
                try simp only [Act.put, List.setIfInBounds_toArray, List.set_cons_zero, List.set_cons_succ]
                refine wpAnyHE_takeP (i := 15) (oi := { dst := some 58, op := Op.binOp BinOp.add 9 (Operand.tmp 57) (Operand.const (Value.string { data := #[32] })) 9, type := 9, pos := "job.go:102", after := #[{ on := 14, ground := Ground.data }], guard := none }) (v := ?_) rfl (by kernel_rfl) (by kernel_rfl) (by kernel_rfl) (fun _ _ _ h => h) (Or.inl ⟨by rfl, ?_⟩) ?_
                rotate_left
                · (intro w _; go_simp; try with_reducible rfl)
                try simp only [Act.put, List.setIfInBounds_toArray, List.set_cons_zero, List.set_cons_succ]
                refine wpAnyHE_takeP (i := 16) (oi := { dst := some 59, op := Op.binOp BinOp.add 9 (Operand.tmp 43) (Operand.tmp 58) 9, type := 9, pos := "job.go:102", after := #[{ on := 0, ground := Ground.data }, { on := 15, ground := Ground.data }], guard := none }) (v := ?_) rfl (by kernel_rfl) (by kernel_rfl) (by kernel_rfl) (fun _ _ _ h => h) (Or.inl ⟨by rfl, ?_⟩) ?_
                rotate_left
                · (intro w _; go_simp; try with_reducible rfl)
                try simp only [Act.put, List.setIfInBounds_toArray, List.set_cons_zero, List.set_cons_succ]
                refine wpAnyHE_ready (rs := [17]) (by kernel_rfl) (by simp) ?_
                refine AllReadyE.consE (o := { dst := some 5, op := Op.assign (Operand.tmp 59), type := 9, pos := "job.go:102", after := #[{ on := 16, ground := Ground.data }, { on := 13, ground := Ground.chain }, { on := 0, ground := Ground.phase }, { on := 1, ground := Ground.phase }, { on := 2, ground := Ground.phase }, { on := 3, ground := Ground.phase }, { on := 4, ground := Ground.phase }, { on := 5, ground := Ground.phase }, { on := 6, ground := Ground.phase }, { on := 7, ground := Ground.phase }, { on := 8, ground := Ground.phase }, { on := 9, ground := Ground.phase }, { on := 10, ground := Ground.phase }, { on := 11, ground := Ground.phase }, { on := 12, ground := Ground.phase }, { on := 13, ground := Ground.phase }, { on := 14, ground := Ground.phase }, { on := 15, ground := Ground.phase }, { on := 16, ground := Ground.phase }], guard := none }) rfl (by kernel_rfl) (fun KH hKH => ?_) AllReadyE.nil
                have HBX := hide hHeld
                go_simp
                refine hKH.out _ _ ?_
                clear hKH KH
                try clear hHeld
                try simp only [Act.put, List.setIfInBounds_toArray, List.set_cons_zero, List.set_cons_succ]
                refine wpAnyHE_done (by kernel_rfl) ?_ _
                refine NoPanic.normal ?_
                go_wp2
                go_meet
                exact ⟨by rw [← HE.out], HBX⟩
              · go_simp
                (go_at_call 44; refine (HQ.out _ hHeld).mono ?_; rintro e w4 ⟨rfl, b4⟩)
                try replace c5 := cell_later b4 c5
                try go_wp2_with fail
                refine hKH.out _ _ ?_ (fun hNew => ?_)
                · (first | exact (Below.refl _ _).drew | exact hHeld.trans (b4.mono hHeld.size) | exact hHeld.trans (b3.mono hHeld.size) | exact hHeld.alloc hHeld.size _ | exact hHeld)
                clear hKH KH hHeld
                have hHeld := hNew
                clear hNew
                try simp only [Act.put, List.setIfInBounds_toArray, List.set_cons_zero, List.set_cons_succ]
                refine wpAnyHE_ready (rs := [5]) (by kernel_rfl) (by simp) ?_
                refine AllReadyE.cons (o := { dst := some 48, op := Op.load 9 (Operand.tmp 47), type := 9, pos := "job.go:102", after := #[{ on := 4, ground := Ground.data }], guard := none }) rfl (fun KH hKH => ?_) AllReadyE.nil
                go_simp
                refine hKH.out _ _ ?_ (fun hNew => ?_)
                · (first | exact (Below.refl _ _).drew | exact hHeld.trans (b4.mono hHeld.size) | exact hHeld.trans (b3.mono hHeld.size) | exact hHeld.alloc hHeld.size _ | exact hHeld)
                clear hKH KH hHeld
                have hHeld := hNew
                clear hNew
                try simp only [Act.put, List.setIfInBounds_toArray, List.set_cons_zero, List.set_cons_succ]
                refine wpAnyHE_takeP (i := 9) (oi := { dst := some 52, op := Op.binOp BinOp.add 9 (Operand.tmp 48) (Operand.tmp 51) 9, type := 9, pos := "job.go:102", after := #[{ on := 5, ground := Ground.data }, { on := 8, ground := Ground.data }], guard := none }) (v := ?_) rfl (by kernel_rfl) (by kernel_rfl) (by kernel_rfl) (fun _ _ _ h => h) (Or.inl ⟨by rfl, ?_⟩) ?_
                rotate_left
                · (intro w _; go_simp; try with_reducible rfl)
                try simp only [Act.put, List.setIfInBounds_toArray, List.set_cons_zero, List.set_cons_succ]
                refine wpAnyHE_takeP (i := 10) (oi := { dst := some 53, op := Op.binOp BinOp.add 9 (Operand.tmp 52) (Operand.const (Value.string { data := #[32] })) 9, type := 9, pos := "job.go:102", after := #[{ on := 9, ground := Ground.data }], guard := none }) (v := ?_) rfl (by kernel_rfl) (by kernel_rfl) (by kernel_rfl) (fun _ _ _ h => h) (Or.inl ⟨by rfl, ?_⟩) ?_
                rotate_left
                · (intro w _; go_simp; try with_reducible rfl)
                try simp only [Act.put, List.setIfInBounds_toArray, List.set_cons_zero, List.set_cons_succ]
                refine wpAnyHE_takeP (i := 14) (oi := { dst := some 57, op := Op.binOp BinOp.add 9 (Operand.tmp 53) (Operand.tmp 56) 9, type := 9, pos := "job.go:102", after := #[{ on := 10, ground := Ground.data }, { on := 13, ground := Ground.data }], guard := none }) (v := ?_) rfl (by kernel_rfl) (by kernel_rfl) (by kernel_rfl) (fun _ _ _ h => h) (Or.inl ⟨by rfl, ?_⟩) ?_
                rotate_left
                · (intro w _; go_simp; try with_reducible rfl)
                try simp only [Act.put, List.setIfInBounds_toArray, List.set_cons_zero, List.set_cons_succ]
                refine wpAnyHE_takeP (i := 15) (oi := { dst := some 58, op := Op.binOp BinOp.add 9 (Operand.tmp 57) (Operand.const (Value.string { data := #[32] })) 9, type := 9, pos := "job.go:102", after := #[{ on := 14, ground := Ground.data }], guard := none }) (v := ?_) rfl (by kernel_rfl) (by kernel_rfl) (by kernel_rfl) (fun _ _ _ h => h) (Or.inl ⟨by rfl, ?_⟩) ?_
                rotate_left
                · (intro w _; go_simp; try with_reducible rfl)
                try simp only [Act.put, List.setIfInBounds_toArray, List.set_cons_zero, List.set_cons_succ]
                refine wpAnyHE_takeP (i := 16) (oi := { dst := some 59, op := Op.binOp BinOp.add 9 (Operand.tmp 43) (Operand.tmp 58) 9, type := 9, pos := "job.go:102", after := #[{ on := 0, ground := Ground.data }, { on := 15, ground := Ground.data }], guard := none }) (v := ?_) rfl (by kernel_rfl) (by kernel_rfl) (by kernel_rfl) (fun _ _ _ h => h) (Or.inl ⟨by rfl, ?_⟩) ?_
                rotate_left
                · (intro w _; go_simp; try with_reducible rfl)
                try simp only [Act.put, List.setIfInBounds_toArray, List.set_cons_zero, List.set_cons_succ]
                refine wpAnyHE_ready (rs := [17]) (by kernel_rfl) (by simp) ?_
                refine AllReadyE.consE (o := { dst := some 5, op := Op.assign (Operand.tmp 59), type := 9, pos := "job.go:102", after := #[{ on := 16, ground := Ground.data }, { on := 13, ground := Ground.chain }, { on := 0, ground := Ground.phase }, { on := 1, ground := Ground.phase }, { on := 2, ground := Ground.phase }, { on := 3, ground := Ground.phase }, { on := 4, ground := Ground.phase }, { on := 5, ground := Ground.phase }, { on := 6, ground := Ground.phase }, { on := 7, ground := Ground.phase }, { on := 8, ground := Ground.phase }, { on := 9, ground := Ground.phase }, { on := 10, ground := Ground.phase }, { on := 11, ground := Ground.phase }, { on := 12, ground := Ground.phase }, { on := 13, ground := Ground.phase }, { on := 14, ground := Ground.phase }, { on := 15, ground := Ground.phase }, { on := 16, ground := Ground.phase }], guard := none }) rfl (by kernel_rfl) (fun KH hKH => ?_) AllReadyE.nil
                have HBX := hide hHeld
                go_simp
                refine hKH.out _ _ ?_
                clear hKH KH
                try clear hHeld
                try simp only [Act.put, List.setIfInBounds_toArray, List.set_cons_zero, List.set_cons_succ]
                refine wpAnyHE_done (by kernel_rfl) ?_ _
                refine NoPanic.normal ?_
                go_wp2
                go_meet
                exact ⟨by rw [← HE.out], HBX⟩
            · go_simp
              (go_at_call 44; refine (HQ.out _ hHeld).mono ?_; rintro e w4 ⟨rfl, b4⟩)
              try replace c5 := cell_later b4 c5
              try go_wp2_with fail
              refine hKH.out _ _ ?_ (fun hNew => ?_)
              · (first | exact (Below.refl _ _).drew | exact hHeld.trans (b4.mono hHeld.size) | exact hHeld.trans (b3.mono hHeld.size) | exact hHeld.alloc hHeld.size _ | exact hHeld)
              clear hKH KH hHeld
              have hHeld := hNew
              clear hNew
              try simp only [Act.put, List.setIfInBounds_toArray, List.set_cons_zero, List.set_cons_succ]
              refine wpAnyHE_ready (rs := [1]) (by kernel_rfl) (by simp) ?_
              refine AllReadyE.cons (o := { dst := some 44, op := Op.buildSlice 42 3 #[(0, Operand.const (Value.string { data := #[] })), (1, Operand.const (Value.string { data := #[115, 97, 109, 101, 32] })), (2, Operand.const (Value.string { data := #[111, 116, 104, 101, 114, 32] }))], type := 42, pos := "job.go:102", after := #[], guard := none }) rfl (fun KH hKH => ?_) AllReadyE.nil
              go_simp
              first | (have hx5 : Below wc.heap.size wc wc.drew := hHeld; have c5 := H5.out wc (Below.refl _ _)) | have c5 := H5.out _ hHeld
              refine hKH.out _ _ ?_ (fun hNew => ?_)
              · (first | exact (Below.refl _ _).drew | exact hHeld.trans (b4.mono hHeld.size) | exact hHeld.trans (b3.mono hHeld.size) | exact hHeld.alloc hHeld.size _ | exact hHeld)
              clear hKH KH hHeld
              have hHeld := hNew
              clear hNew
              try simp only [Act.put, List.setIfInBounds_toArray, List.set_cons_zero, List.set_cons_succ]
              refine wpAnyHE_takeP (i := 4) (oi := { dst := some 47, op := Op.indexAddr 42 (Operand.tmp 44) (Operand.tmp 46), type := 0, pos := "job.go:102", after := #[{ on := 1, ground := Ground.data }, { on := 3, ground := Ground.data }], guard := none }) (v := ?_) rfl (by kernel_rfl) (by kernel_rfl) (by kernel_rfl) (fun _ _ _ h => h) (Or.inl ⟨by rfl, ?_⟩) ?_
              rotate_left
              · (intro w _; go_simp; try with_reducible rfl)
              try simp only [Act.put, List.setIfInBounds_toArray, List.set_cons_zero, List.set_cons_succ]
              refine wpAnyHE_ready (rs := [5]) (by kernel_rfl) (by simp) ?_
              refine AllReadyE.cons (o := { dst := some 48, op := Op.load 9 (Operand.tmp 47), type := 9, pos := "job.go:102", after := #[{ on := 4, ground := Ground.data }], guard := none }) rfl (fun KH hKH => ?_) AllReadyE.nil
              go_simp
              refine hKH.out _ _ ?_ (fun hNew => ?_)
              · (first | exact (Below.refl _ _).drew | exact hHeld.trans (b4.mono hHeld.size) | exact hHeld.trans (b3.mono hHeld.size) | exact hHeld.alloc hHeld.size _ | exact hHeld)
              clear hKH KH hHeld
              have hHeld := hNew
              clear hNew
              try simp only [Act.put, List.setIfInBounds_toArray, List.set_cons_zero, List.set_cons_succ]
              refine wpAnyHE_takeP (i := 9) (oi := { dst := some 52, op := Op.binOp BinOp.add 9 (Operand.tmp 48) (Operand.tmp 51) 9, type := 9, pos := "job.go:102", after := #[{ on := 5, ground := Ground.data }, { on := 8, ground := Ground.data }], guard := none }) (v := ?_) rfl (by kernel_rfl) (by kernel_rfl) (by kernel_rfl) (fun _ _ _ h => h) (Or.inl ⟨by rfl, ?_⟩) ?_
              rotate_left
              · (intro w _; go_simp; try with_reducible rfl)
              try simp only [Act.put, List.setIfInBounds_toArray, List.set_cons_zero, List.set_cons_succ]
              refine wpAnyHE_takeP (i := 10) (oi := { dst := some 53, op := Op.binOp BinOp.add 9 (Operand.tmp 52) (Operand.const (Value.string { data := #[32] })) 9, type := 9, pos := "job.go:102", after := #[{ on := 9, ground := Ground.data }], guard := none }) (v := ?_) rfl (by kernel_rfl) (by kernel_rfl) (by kernel_rfl) (fun _ _ _ h => h) (Or.inl ⟨by rfl, ?_⟩) ?_
              rotate_left
              · (intro w _; go_simp; try with_reducible rfl)
              try simp only [Act.put, List.setIfInBounds_toArray, List.set_cons_zero, List.set_cons_succ]
              refine wpAnyHE_takeP (i := 14) (oi := { dst := some 57, op := Op.binOp BinOp.add 9 (Operand.tmp 53) (Operand.tmp 56) 9, type := 9, pos := "job.go:102", after := #[{ on := 10, ground := Ground.data }, { on := 13, ground := Ground.data }], guard := none }) (v := ?_) rfl (by kernel_rfl) (by kernel_rfl) (by kernel_rfl) (fun _ _ _ h => h) (Or.inl ⟨by rfl, ?_⟩) ?_
              rotate_left
              · (intro w _; go_simp; try with_reducible rfl)
              try simp only [Act.put, List.setIfInBounds_toArray, List.set_cons_zero, List.set_cons_succ]
              refine wpAnyHE_takeP (i := 15) (oi := { dst := some 58, op := Op.binOp BinOp.add 9 (Operand.tmp 57) (Operand.const (Value.string { data := #[32] })) 9, type := 9, pos := "job.go:102", after := #[{ on := 14, ground := Ground.data }], guard := none }) (v := ?_) rfl (by kernel_rfl) (by kernel_rfl) (by kernel_rfl) (fun _ _ _ h => h) (Or.inl ⟨by rfl, ?_⟩) ?_
              rotate_left
              · (intro w _; go_simp; try with_reducible rfl)
              try simp only [Act.put, List.setIfInBounds_toArray, List.set_cons_zero, List.set_cons_succ]
              refine wpAnyHE_takeP (i := 16) (oi := { dst := some 59, op := Op.binOp BinOp.add 9 (Operand.tmp 43) (Operand.tmp 58) 9, type := 9, pos := "job.go:102", after := #[{ on := 0, ground := Ground.data }, { on := 15, ground := Ground.data }], guard := none }) (v := ?_) rfl (by kernel_rfl) (by kernel_rfl) (by kernel_rfl) (fun _ _ _ h => h) (Or.inl ⟨by rfl, ?_⟩) ?_
              rotate_left
              · (intro w _; go_simp; try with_reducible rfl)
              try simp only [Act.put, List.setIfInBounds_toArray, List.set_cons_zero, List.set_cons_succ]
              refine wpAnyHE_ready (rs := [17]) (by kernel_rfl) (by simp) ?_
              refine AllReadyE.consE (o := { dst := some 5, op := Op.assign (Operand.tmp 59), type := 9, pos := "job.go:102", after := #[{ on := 16, ground := Ground.data }, { on := 13, ground := Ground.chain }, { on := 0, ground := Ground.phase }, { on := 1, ground := Ground.phase }, { on := 2, ground := Ground.phase }, { on := 3, ground := Ground.phase }, { on := 4, ground := Ground.phase }, { on := 5, ground := Ground.phase }, { on := 6, ground := Ground.phase }, { on := 7, ground := Ground.phase }, { on := 8, ground := Ground.phase }, { on := 9, ground := Ground.phase }, { on := 10, ground := Ground.phase }, { on := 11, ground := Ground.phase }, { on := 12, ground := Ground.phase }, { on := 13, ground := Ground.phase }, { on := 14, ground := Ground.phase }, { on := 15, ground := Ground.phase }, { on := 16, ground := Ground.phase }], guard := none }) rfl (by kernel_rfl) (fun KH hKH => ?_) AllReadyE.nil
              have HBX := hide hHeld
              go_simp
              refine hKH.out _ _ ?_
              clear hKH KH
              try clear hHeld
              try simp only [Act.put, List.setIfInBounds_toArray, List.set_cons_zero, List.set_cons_succ]
              refine wpAnyHE_done (by kernel_rfl) ?_ _
              refine NoPanic.normal ?_
              go_wp2
              go_meet
              exact ⟨by rw [← HE.out], HBX⟩
      case rest =>
      obtain ⟨rfl, HBD⟩ := hcut
      have HB3 := hide (HB2.out.trans (HBD.out.mono HB2.out.size))
      obtain ⟨ck1, ck2, ck3⟩ := HKO.out
      obtain ⟨cv1, cv2, cv3⟩ := HVO.out
      have HTK := hide fun w' (hb : Below wc.heap.size wc w') => text_any d r.key.k r.key.n r.key.s r.key.a r.key.ao r.key.cap w' true r.each (HG.out.later (HB3.out.trans (hb.mono HB3.out.size)) (Nat.le_refl _)) (HRA.out w' (HB3.out.trans (hb.mono HB3.out.size))).key ck3 (Nat.le_trans ck1 (by decide))
      have HTV := hide fun w' (hb : Below wc.heap.size wc w') => text_any d r.val.k r.val.n r.val.s r.val.a r.val.ao r.val.cap w' false r.each (HG.out.later (HB3.out.trans (hb.mono HB3.out.size)) (Nat.le_refl _)) (HRA.out w' (HB3.out.trans (hb.mono HB3.out.size))).val cv3 (Nat.le_trans cv1 (by decide))
      have HE : Hid (tx (P1 ++ whenT r.v) ++ (((((⟨#[107, 101, 121, 32]⟩ ++ tx (textX (.mk r.key.k r.key.n r.key.s r.key.a))) ++ ⟨#[32, 118, 97, 108, 32]⟩) ++ tx (textX (.mk r.val.k r.val.n r.val.s r.val.a))) ++ ⟨#[10]⟩)) = tx (HD ++ 10 :: linesT (RV.take (j + 1)))) := by
        show _ = _
        rw [← HFIN.out]
        apply tl_inj
        rw [tl, tl, tx_list]
        simp [tx, ByteArray.data_append, ExR.tree]
      have z2' : (tx (textX (.mk r.key.k r.key.n r.key.s r.key.a))).size ≤ 3030 := by rw [tx_size]; exact z2
      have z3' : (tx (textX (.mk r.val.k r.val.n r.val.s r.val.a))).size ≤ 3030 := by rw [tx_size]; exact z3
      clear ck1 ck2 ck3 cv1 cv2 cv3
      generalize tx (textX (.mk r.key.k r.key.n r.key.s r.key.a)) = T0 at *
      generalize tx (textX (.mk r.val.k r.val.n r.val.s r.val.a)) = Q0 at *
      generalize tx (P1 ++ whenT r.v) = S1 at *
      have n1 : ¬ 9223372036854775807 < 4 + T0.size := by omega
      have n2 : ¬ 9223372036854775807 < 4 + T0.size + 5 := by omega
      have n3 : ¬ 9223372036854775807 < 4 + T0.size + 5 + Q0.size := by omega
      have n4 : ¬ 9223372036854775807 < 4 + T0.size + 5 + Q0.size + 1 := by omega
      have n5 : ¬ 9223372036854775807 < S1.size + (4 + T0.size + 5 + Q0.size + 1) := by omega
      have u7 := cell_regrown (cell_later HBD.out k7)
      have u8 := cell_regrown (cell_later HBD.out k8)
      have u9 := cell_regrown (cell_later HBD.out k9)
      have u10 := cell_regrown (cell_later HBD.out k10)
      have u11 := cell_regrown (cell_later HBD.out k11)
      have u12 := cell_regrown (cell_later HBD.out k12)
      have u13 := cell_regrown (cell_later HBD.out k13)
      have u14 := cell_regrown (cell_later HBD.out k14)
      clear k0 k1 k2 k3 k4 k5 k6 k7 k8 k9 k10 k11 k12 k13 k14
      go_upto_region 15 with (fail)
      refine wp_region_quiet_below (by kernel_rfl) (by kernel_rfl) ?_
      repeat (go_big_quiet_step (first
        | (go_at_call_of 43 (Value.agg #[Value.int IntKind.i64 r.key.k, Value.int IntKind.i64 r.key.n, Value.string r.key.s, Value.slice r.key.ao r.key.a.length r.key.cap]); exact Calls.regrown_of (HTK.out _ (below_regrown _ _ _)))
        | (go_at_call_of 43 (Value.agg #[Value.int IntKind.i64 r.val.k, Value.int IntKind.i64 r.val.n, Value.string r.val.s, Value.slice r.val.ao r.val.a.length r.val.cap]); exact Calls.regrown_of (HTV.out _ (below_regrown _ _ _)))))
      refine wpQuiet_nil ?_
      intro _ hw'
      obtain ⟨⟨dq, osq⟩, hw''⟩ := hw'
      subst hw''
      have HB4 := hide (HB3.out.trans ((below_regrown wc dq osq).mono HB3.out.size))
      clear u7 u8 u9 u10 u11 u12 u13 u14 HTK HTV
      go_wp2
      go_roundw
      case rel => exact ⟨j + 1, by omega, by go_num, by rw [← HE.out], HB4⟩
      case measure => (simp [intOf]; try omega)
    · obtain rfl : j = rs.length := by omega
      have hS0 := HSZ.out rs.length (by rw [HLN.out]; omega)
      have HT : Hid (HD ++ 10 :: linesT (RV.take rs.length) = jobT RV m slices early) := by
        show _ = _
        rw [List.take_of_length_le (by rw [HLN.out]; omega), HHD.out]; rfl
      rw [HT.out] at hS0 ⊢
      have e1 : decide ((rs.length : Int) < (rs.length : Int)) = false := by simp
      by_cases h8 : 800 < (tx (jobT RV m slices early)).size
      · have HO : Hid (textOut RV m slices early = ([], 2)) := by
          rw [tx_size] at h8
          show _ = _
          unfold textOut
          rw [if_neg (by rw [HJF.out]; simp), if_pos h8]
        go_wp2
        go_ret2
        exact ⟨by rw [HO.out]; rfl, HB.out⟩
      · have HO : Hid (textOut RV m slices early = (jobT RV m slices early, 0)) := by
          rw [tx_size] at h8
          show _ = _
          unfold textOut
          rw [if_neg (by rw [HJF.out]; simp), if_neg h8]
        go_wp2
        go_ret2
        exact ⟨by rw [HO.out]; rfl, HB.out⟩
end Go.Proofs.YtgeedjlbajmdkaaGreatDoor
