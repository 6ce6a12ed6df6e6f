/- Pairs: the document's sum of a key, its numerals. -/
import Derived.Test.YtgeedjlbajmdkaaGreatDoorPair2
set_option linter.unusedSimpArgs false
set_option linter.unusedVariables false
namespace Go.Proofs.YtgeedjlbajmdkaaGreatDoor
open Go.RowKit

theorem xor_same {h : Int} {c : UInt8} (h0 : 0 ≤ h) (h1 : h < 4294967296) : bits BinOp.xor IntKind.i64 h (c.toNat : Int) = bits BinOp.xor IntKind.u32 h ((c.toNat : Int) % 4294967296) ∧ 0 ≤ bits BinOp.xor IntKind.i64 h (c.toNat : Int) ∧ bits BinOp.xor IntKind.i64 h (c.toNat : Int) < 4294967296 := by
  obtain ⟨n, rfl⟩ : ∃ n : Nat, h = n := ⟨h.toNat, by omega⟩
  have hc : c.toNat < 256 := c.toNat_lt
  have hn : n < 2 ^ 32 := by omega
  have hx : n ^^^ c.toNat < 2 ^ 32 := Nat.xor_lt_two_pow hn (by omega)
  have e64 : bits BinOp.xor IntKind.i64 (n : Int) (c.toNat : Int) = ((n ^^^ c.toNat : Nat) : Int) := by
    have key : (BitVec.ofInt 64 (n : Int) ^^^ BitVec.ofInt 64 (c.toNat : Int)).toNat = n ^^^ c.toNat := by
      rw [BitVec.toNat_xor, BitVec.toNat_ofInt, BitVec.toNat_ofInt]
      congr 1 <;> omega
    show IntKind.i64.wrap ((BitVec.ofInt 64 (n : Int) ^^^ BitVec.ofInt 64 (c.toNat : Int)).toNat : Nat) = _
    rw [key, IntKind.wrap_i64]
    omega
  have e32 : bits BinOp.xor IntKind.u32 (n : Int) ((c.toNat : Int) % 4294967296) = ((n ^^^ c.toNat : Nat) : Int) := by
    have key : (BitVec.ofInt 32 (n : Int) ^^^ BitVec.ofInt 32 ((c.toNat : Int) % 4294967296)).toNat = n ^^^ c.toNat := by
      rw [BitVec.toNat_xor, BitVec.toNat_ofInt, BitVec.toNat_ofInt]
      congr 1 <;> omega
    show IntKind.u32.wrap ((BitVec.ofInt 32 (n : Int) ^^^ BitVec.ofInt 32 ((c.toNat : Int) % 4294967296)).toNat : Nat) = _
    rw [key]
    exact IntWalk.u32_in _ (by omega)
  rw [e64, e32]
  exact ⟨rfl, by omega, by omega⟩
set_option maxHeartbeats 400000 in
theorem KeySum_any (s : ByteArray) (w : World) (hs : s.size ≤ maxLen) :
    Calls Tryz.prog 107 #[.string s] w fun e w' => e = .returned (.int .i64 (sumB s.data.toList)) ∧ w = w' := by
  unfold maxLen at hs
  go_enter Tryz.func107, Tryz.ntmps107
  go_wp2
  go_loop [3, 4] (fun h i => ∃ k : Nat, k ≤ s.size ∧ i = .int .i64 k ∧ h = .int .i64 (sumB (s.data.toList.take k))) (fun _ i => s.size - (intOf i).toNat)
  case atStart => exact ⟨0, by omega, rfl, rfl⟩
  case round =>
    obtain ⟨k, hk, rfl, rfl⟩ := hrel
    by_cases hlt : k < s.size
    · have hsn := sumB_snoc s k hlt
      have Hsn := hide hsn; clear hsn
      have hb := sumB_bd (s.data.toList.take k)
      generalize sumB (s.data.toList.take k) = h at *
      obtain ⟨hx, hx0, hx1⟩ := xor_same (c := s[k]) hb.1 hb.2
      have hst : sumStep h s[k] = bits BinOp.xor IntKind.i64 h (s[k].toNat : Int) * 16777619 % 4294967296 := by unfold sumStep; rw [hx]
      have HST := hide hst
      clear hx hst
      have hc1 : (s[k].toNat : Int) ≤ 255 := by have : s[k].toNat < 256 := s[k].toNat_lt; omega
      have hc0 : (0 : Int) ≤ (s[k].toNat : Int) := by omega
      generalize hxx : bits BinOp.xor IntKind.i64 h (s[k].toNat : Int) = x at *
      go_wp2
      go_round
      case rel => exact ⟨k+1, by omega, by go_num, by rw [Hsn.out, HST.out]⟩
      case measure => (simp [intOf]; omega)
    · go_wp2
      go_ret
      rw [List.take_of_length_le (by simp; omega)]
      exact ⟨rfl, rfl⟩
theorem SliceOf_any (s : ByteArray) (many : Int) (w : World) (hs : s.size ≤ maxLen) (hm : 1 ≤ many ∧ many ≤ 1000) :
    Calls Tryz.prog 71 #[.string s, .int .i64 many] w fun e w' => e = .returned (.int .i64 (sliceB s many)) ∧ w = w' := by
  have hb := sumB_bd s.data.toList
  have hr : sliceB s many = sumB s.data.toList % max many 1 := rfl
  have Hr := hide hr; clear hr
  have hmx : max 1 many = many := by omega
  go_enter Tryz.func71, Tryz.ntmps71
  go_wp2_with fail
  refine (KeySum_any s _ hs).mono ?_
  rintro e w1 ⟨rfl, rfl⟩
  generalize sumB s.data.toList = hv at *
  go_wp2
  all_goals
    go_ret
    refine ⟨ret_i ?_, rfl⟩
    have hm1 : max many 1 = many := by omega
    rw [Hr.out, hm1]
    all_goals trace_state
theorem decD_small {n : Nat} (h : n < 10) : tx (Lib.decDigits n) = ⟨#[UInt8.ofNat (48 + n)]⟩ := by
  rw [Lib.decDigits_one h]; rfl
theorem conv_one (w : World) (b : Nat) (c : Int) (h0 : 0 ≤ c) (h1 : c ≤ 255) (h : w.cell? ⟨b, 0, none⟩ = some (.int .u8 c)) :
    (convert 135 9 (.slice (some ⟨b, 0, none⟩) 1 1)).run Tryz.prog w = .ok (.string ⟨#[UInt8.ofNat c.toNat]⟩) w := by
  have := run_convert_bytes_back (P := Tryz.prog) w 135 9 5 ⟨b, 0, none⟩ 1 [UInt8.ofNat c.toNat] Tryz.underlying135 Tryz.underlying5 Tryz.underlying9 (fun j hj => by
    obtain rfl : j = 0 := by simpa using hj
    have e : (⟨b, 0, none⟩ : Addr).add 0 = ⟨b, 0, none⟩ := by unfold Addr.add; split <;> simp_all
    rw [e, h]
    congr 2
    show c = (((UInt8.ofNat c.toNat).toNat : Nat) : Int)
    rw [u8_nat (by omega)]; omega)
  simpa using this
theorem bcell {W w1 : World} (hb : Below W.heap.size W w1) : (∀ b o, b < W.heap.size → w1.cell? ⟨b, o, none⟩ = W.cell? ⟨b, o, none⟩) :=
  fun b o h => hb.cell (p := ⟨b, o, none⟩) h
set_option maxRecDepth 100000 in
set_option maxHeartbeats 1000000 in
theorem Decimal_nat (N : Nat) : ∀ (n : Nat) (w : World), n ≤ N → n ≤ 9223372036854775807 →
    Calls Tryz.prog 45 #[.int .i64 n] w fun e w' => e = .returned (.string (tx (Lib.decDigits n))) ∧ Below w.heap.size w w' := by
  induction N using Nat.strongRecOn with
  | _ N ih =>
    intro n w hn hmax
    have e0 : decide ((n : Int) < 0) = false := by simp
    by_cases h10 : n < 10
    · have e1 : decide ((n : Int) < 10) = true := by simp; omega
      have HD := hide (decD_small h10)
      have hcv := conv_one (w.alloc (.cells #[.int .u8 (48 + (n : Int))] 5)) w.heap.size (48 + n) (by omega) (by omega) ((Bk.new rfl).get (j := 0) rfl)
      have HB : Hid (Below w.heap.size w (w.alloc (.cells #[.int .u8 (48 + (n : Int))] 5))) := (Below.refl _ _).alloc (Nat.le_refl _) _
      go_enter Tryz.func45, Tryz.ntmps45
      go_wp2
      go_ret
      refine ⟨?_, HB.out⟩
      rw [HD.out]
      rfl
    · have e1 : decide ((n : Int) < 10) = false := by simp; omega
      have HX := hide fun w' => ih (n / 10) (by omega) (n / 10) w' (Nat.le_refl _) (by omega)
      have hq : (n : Int) / 10 = ((n / 10 : Nat) : Int) := by omega
      have hr : (n : Int) % 10 = ((n % 10 : Nat) : Int) := by omega
      have hm : n % 10 ≤ 9 := by omega
      have HD : Hid (Lib.decDigits n = Lib.decDigits (n / 10) ++ [UInt8.ofNat (48 + n % 10)]) := by
        show _ = _
        conv => lhs; rw [Lib.decDigits, dif_neg h10]
      generalize n / 10 = q at *
      generalize n % 10 = r at *
      have hcv : ∀ (w' : World) (b : Nat), w'.cell? ⟨b, 0, none⟩ = some (.int .u8 (48 + (r : Int))) → (convert 135 9 (.slice (some ⟨b, 0, none⟩) 1 1)).run Tryz.prog w' = .ok (.string ⟨#[UInt8.ofNat (48 + r)]⟩) w' := fun w' b h => by
        have := conv_one w' b _ (by omega) (by omega) h
        rwa [show (48 + (r : Int)).toNat = 48 + r by omega] at this
      go_enter Tryz.func45, Tryz.ntmps45

      have hz : ¬ (9223372036854775807 < (tx (Lib.decDigits q)).size + 1) := by
        have := dec_len_le (u := q) (by omega)
        rw [tx_size]; omega
      obtain ⟨c, hc⟩ : ∃ c, UInt8.ofNat (48 + r) = c := ⟨_, rfl⟩
      rw [hc] at hcv HD
      have HE : Hid (tx (Lib.decDigits q) ++ ⟨#[c]⟩ = tx (Lib.decDigits n)) := by
        show _ = _
        rw [HD.out]
        apply tl_inj
        rw [tl, tl, tx_list]
        simp [tx, ByteArray.data_append]
      clear hc
      have hq2 : IntKind.i64.wrap (q : Int) = (q : Int) := IntWalk.i64_in _ (by omega)
      have hr1 : (n : Int).tmod 10 = (r : Int) := by rw [Int.tmod_eq_emod_of_nonneg (by omega)]; exact hr
      have hs1 : IntKind.i64.wrap (48 + (r : Int)) = 48 + (r : Int) := IntWalk.i64_in _ (by omega)
      have hs2 : IntKind.u8.wrap (48 + (r : Int)) = 48 + (r : Int) := IntWalk.u8_in _ (by omega)
      go_upto_region 7 with (fail)
      refine wp_region_noPanic ?_
      refine wp_region_held_drew (S := (fun w' => Below w.heap.size w w')) (by kernel_rfl) ?_ (fun hHeld => ?_)
      · (first | exact (Below.refl _ _).drew | exact hHeld | exact hHeld.alloc hHeld.size _ | exact hHeld.trans (b1.mono hHeld.size))
      try dsimp only [List.size_toArray, List.length_cons, List.length_nil, Nat.reduceAdd]
      refine wpAnyH_take (i := 0) (oi := { dst := some 18, op := Op.move (Operand.tmp 0), type := 3, pos := "parts.go:83", after := #[], guard := none }) (v := ?_) rfl (by kernel_rfl) (by kernel_rfl) (by kernel_rfl) (fun _ _ _ h => h) (Or.inl ⟨by rfl, ?_⟩) (by assumption) ?_
      rotate_left
      · (intro w hSw; (try dsimp only at hSw); go_simp; try with_reducible rfl)
      try simp only [Act.put, List.setIfInBounds_toArray, List.set_cons_zero, List.set_cons_succ]
      refine wpAnyH_take (i := 1) (oi := { dst := some 19, op := Op.binOp BinOp.quo 3 (Operand.tmp 18) (Operand.const (Value.int IntKind.i64 10)) 3, type := 3, pos := "parts.go:83", after := #[{ on := 0, ground := Ground.data }], guard := none }) (v := ?_) rfl (by kernel_rfl) (by kernel_rfl) (by kernel_rfl) (fun _ _ _ h => h) (Or.inl ⟨by rfl, ?_⟩) (by assumption) ?_
      rotate_left
      · (intro w hSw; (try dsimp only at hSw); go_simp; try with_reducible rfl)
      try simp only [Act.put, List.setIfInBounds_toArray, List.set_cons_zero, List.set_cons_succ]
      refine wpAnyH_take (i := 3) (oi := { dst := some 21, op := Op.move (Operand.tmp 0), type := 3, pos := "parts.go:83", after := #[], guard := none }) (v := ?_) rfl (by kernel_rfl) (by kernel_rfl) (by kernel_rfl) (fun _ _ _ h => h) (Or.inl ⟨by rfl, ?_⟩) (by assumption) ?_
      rotate_left
      · (intro w hSw; (try dsimp only at hSw); go_simp; try with_reducible rfl)
      try simp only [Act.put, List.setIfInBounds_toArray, List.set_cons_zero, List.set_cons_succ]
      refine wpAnyH_take (i := 4) (oi := { dst := some 22, op := Op.binOp BinOp.rem 3 (Operand.tmp 21) (Operand.const (Value.int IntKind.i64 10)) 3, type := 3, pos := "parts.go:83", after := #[{ on := 3, ground := Ground.data }], guard := none }) (v := ?_) rfl (by kernel_rfl) (by kernel_rfl) (by kernel_rfl) (fun _ _ _ h => h) (Or.inl ⟨by rfl, ?_⟩) (by assumption) ?_
      rotate_left
      · (intro w hSw; (try dsimp only at hSw); go_simp; try with_reducible rfl)
      try simp only [Act.put, List.setIfInBounds_toArray, List.set_cons_zero, List.set_cons_succ]
      refine wpAnyH_take (i := 5) (oi := { dst := some 23, op := Op.binOp BinOp.add 3 (Operand.const (Value.int IntKind.i64 48)) (Operand.tmp 22) 3, type := 3, pos := "parts.go:83", after := #[{ on := 4, ground := Ground.data }], guard := none }) (v := ?_) rfl (by kernel_rfl) (by kernel_rfl) (by kernel_rfl) (fun _ _ _ h => h) (Or.inl ⟨by rfl, ?_⟩) (by assumption) ?_
      rotate_left
      · (intro w hSw; (try dsimp only at hSw); go_simp; try with_reducible rfl)
      try simp only [Act.put, List.setIfInBounds_toArray, List.set_cons_zero, List.set_cons_succ]
      refine wpAnyH_take (i := 6) (oi := { dst := some 24, op := Op.convert 3 5 (Operand.tmp 23), type := 5, pos := "parts.go:83", after := #[{ on := 5, ground := Ground.data }], guard := none }) (v := ?_) rfl (by kernel_rfl) (by kernel_rfl) (by kernel_rfl) (fun _ _ _ h => h) (Or.inl ⟨by rfl, ?_⟩) (by assumption) ?_
      rotate_left
      · (intro w hSw; (try dsimp only at hSw); go_simp; try with_reducible rfl)
      try simp only [Act.put, List.setIfInBounds_toArray, List.set_cons_zero, List.set_cons_succ]
      refine wpAnyH_ready (rs := [2, 7]) (by kernel_rfl) (by simp) ?_
      refine (AllReadyH.cons (o := { dst := some 20, op := Op.call { callee := Callee.value (Operand.func 45), args := #[Operand.tmp 19], argTypes := #[3] }, type := 9, pos := "parts.go:83", after := #[{ on := 1, ground := Ground.data }], guard := none }) rfl (fun KH hKH => ?_) (AllReadyH.cons (o := { dst := some 25, op := Op.buildSlice 135 1 #[(0, Operand.tmp 24)], type := 135, pos := "parts.go:83", after := #[{ on := 6, ground := Ground.data }], guard := none }) rfl (fun KH hKH => ?_) AllReadyH.nil))
      · go_simp
        ((go_at_call 45; refine (HX.out _).mono ?_; rintro e w1 ⟨rfl, b1⟩); try (have hk1 := cell_later b1 ((Bk.new (cs := #[.int .u8 (48 + (r : Int))]) (t := 5) rfl).get (j := 0) rfl)))
        try go_wp2_with fail
        refine hKH.out _ _ ?_ (fun hNew => ?_)
        · (first | exact (Below.refl _ _).drew | exact hHeld | exact hHeld.alloc hHeld.size _ | exact hHeld.trans (b1.mono hHeld.size))
        clear hKH KH hHeld
        have hHeld := hNew
        clear hNew
        refine wpAnyH_ready (rs := [7]) (by kernel_rfl) (by simp) ?_
        refine AllReadyH.cons (o := { dst := some 25, op := Op.buildSlice 135 1 #[(0, Operand.tmp 24)], type := 135, pos := "parts.go:83", after := #[{ on := 6, ground := Ground.data }], guard := none }) rfl (fun KH hKH => ?_) AllReadyH.nil
        go_simp
        refine hKH.out _ _ ?_ (fun hNew => ?_)
        · (first | exact (Below.refl _ _).drew | exact hHeld | exact hHeld.alloc hHeld.size _ | exact hHeld.trans (b1.mono hHeld.size))
        clear hKH KH hHeld
        have hHeld := hNew
        clear hNew
        refine wpAnyH_ready (rs := [8]) (by kernel_rfl) (by simp) ?_
        refine AllReadyH.cons (o := { dst := some 26, op := Op.convert 135 9 (Operand.tmp 25), type := 9, pos := "parts.go:83", after := #[{ on := 7, ground := Ground.data }], guard := none }) rfl (fun KH hKH => ?_) AllReadyH.nil
        go_simp
        refine hKH.out _ _ ?_ (fun hNew => ?_)
        · (first | exact (Below.refl _ _).drew | exact hHeld | exact hHeld.alloc hHeld.size _ | exact hHeld.trans (b1.mono hHeld.size))
        clear hKH KH hHeld
        have hHeld := hNew
        clear hNew
        refine wpAnyH_take (i := 9) (oi := { dst := some 27, op := Op.binOp BinOp.add 9 (Operand.tmp 20) (Operand.tmp 26) 9, type := 9, pos := "parts.go:83", after := #[{ on := 2, ground := Ground.data }, { on := 8, ground := Ground.data }], guard := none }) (v := ?_) rfl (by kernel_rfl) (by kernel_rfl) (by kernel_rfl) (fun _ _ _ h => h) (Or.inl ⟨by rfl, ?_⟩) (by assumption) ?_
        rotate_left
        · (intro w hSw; (try dsimp only at hSw); go_simp; try with_reducible rfl)
        try simp only [Act.put, List.setIfInBounds_toArray, List.set_cons_zero, List.set_cons_succ]
        refine wpAnyH_take (i := 10) (oi := { dst := some 2, op := Op.assign (Operand.tmp 27), type := 9, pos := "parts.go:83", after := #[{ on := 9, ground := Ground.data }, { on := 2, ground := Ground.chain }, { on := 0, ground := Ground.phase }, { on := 1, ground := Ground.phase }, { on := 2, ground := Ground.phase }, { on := 3, ground := Ground.phase }, { on := 4, ground := Ground.phase }, { on := 5, ground := Ground.phase }, { on := 6, ground := Ground.phase }, { on := 7, ground := Ground.phase }, { on := 8, ground := Ground.phase }, { on := 9, ground := Ground.phase }], guard := none }) (v := ?_) rfl (by kernel_rfl) (by kernel_rfl) (by kernel_rfl) (fun _ _ _ h => h) (Or.inl ⟨by rfl, ?_⟩) (by assumption) ?_
        rotate_left
        · (intro w hSw; (try dsimp only at hSw); go_simp; try with_reducible rfl)
        try simp only [Act.put, List.setIfInBounds_toArray, List.set_cons_zero, List.set_cons_succ]
        refine wpAnyH_done (by kernel_rfl) ?_ _
        refine NoPanic.normal ?_
        go_wp2
        go_ret
        exact ⟨congrArg (fun x => Ending.returned (.string x)) HE.out, hHeld⟩
      · go_simp
        refine hKH.out _ _ ?_ (fun hNew => ?_)
        · (first | exact (Below.refl _ _).drew | exact hHeld | exact hHeld.alloc hHeld.size _ | exact hHeld.trans (b1.mono hHeld.size))
        clear hKH KH hHeld
        have hHeld := hNew
        clear hNew
        refine wpAnyH_ready (rs := [2, 8]) (by kernel_rfl) (by simp) ?_
        refine (AllReadyH.cons (o := { dst := some 20, op := Op.call { callee := Callee.value (Operand.func 45), args := #[Operand.tmp 19], argTypes := #[3] }, type := 9, pos := "parts.go:83", after := #[{ on := 1, ground := Ground.data }], guard := none }) rfl (fun KH hKH => ?_) (AllReadyH.cons (o := { dst := some 26, op := Op.convert 135 9 (Operand.tmp 25), type := 9, pos := "parts.go:83", after := #[{ on := 7, ground := Ground.data }], guard := none }) rfl (fun KH hKH => ?_) AllReadyH.nil))
        · go_simp
          ((go_at_call 45; refine (HX.out _).mono ?_; rintro e w1 ⟨rfl, b1⟩); try (have hk1 := cell_later b1 ((Bk.new (cs := #[.int .u8 (48 + (r : Int))]) (t := 5) rfl).get (j := 0) rfl)))
          try go_wp2_with fail
          refine hKH.out _ _ ?_ (fun hNew => ?_)
          · (first | exact (Below.refl _ _).drew | exact hHeld | exact hHeld.alloc hHeld.size _ | exact hHeld.trans (b1.mono hHeld.size))
          clear hKH KH hHeld
          have hHeld := hNew
          clear hNew
          refine wpAnyH_ready (rs := [8]) (by kernel_rfl) (by simp) ?_
          refine AllReadyH.cons (o := { dst := some 26, op := Op.convert 135 9 (Operand.tmp 25), type := 9, pos := "parts.go:83", after := #[{ on := 7, ground := Ground.data }], guard := none }) rfl (fun KH hKH => ?_) AllReadyH.nil
          go_simp
          refine hKH.out _ _ ?_ (fun hNew => ?_)
          · (first | exact (Below.refl _ _).drew | exact hHeld | exact hHeld.alloc hHeld.size _ | exact hHeld.trans (b1.mono hHeld.size))
          clear hKH KH hHeld
          have hHeld := hNew
          clear hNew
          refine wpAnyH_take (i := 9) (oi := { dst := some 27, op := Op.binOp BinOp.add 9 (Operand.tmp 20) (Operand.tmp 26) 9, type := 9, pos := "parts.go:83", after := #[{ on := 2, ground := Ground.data }, { on := 8, ground := Ground.data }], guard := none }) (v := ?_) rfl (by kernel_rfl) (by kernel_rfl) (by kernel_rfl) (fun _ _ _ h => h) (Or.inl ⟨by rfl, ?_⟩) (by assumption) ?_
          rotate_left
          · (intro w hSw; (try dsimp only at hSw); go_simp; try with_reducible rfl)
          try simp only [Act.put, List.setIfInBounds_toArray, List.set_cons_zero, List.set_cons_succ]
          refine wpAnyH_take (i := 10) (oi := { dst := some 2, op := Op.assign (Operand.tmp 27), type := 9, pos := "parts.go:83", after := #[{ on := 9, ground := Ground.data }, { on := 2, ground := Ground.chain }, { on := 0, ground := Ground.phase }, { on := 1, ground := Ground.phase }, { on := 2, ground := Ground.phase }, { on := 3, ground := Ground.phase }, { on := 4, ground := Ground.phase }, { on := 5, ground := Ground.phase }, { on := 6, ground := Ground.phase }, { on := 7, ground := Ground.phase }, { on := 8, ground := Ground.phase }, { on := 9, ground := Ground.phase }], guard := none }) (v := ?_) rfl (by kernel_rfl) (by kernel_rfl) (by kernel_rfl) (fun _ _ _ h => h) (Or.inl ⟨by rfl, ?_⟩) (by assumption) ?_
          rotate_left
          · (intro w hSw; (try dsimp only at hSw); go_simp; try with_reducible rfl)
          try simp only [Act.put, List.setIfInBounds_toArray, List.set_cons_zero, List.set_cons_succ]
          refine wpAnyH_done (by kernel_rfl) ?_ _
          refine NoPanic.normal ?_
          go_wp2
          go_ret
          exact ⟨congrArg (fun x => Ending.returned (.string x)) HE.out, hHeld⟩
        · go_simp
          refine hKH.out _ _ ?_ (fun hNew => ?_)
          · (first | exact (Below.refl _ _).drew | exact hHeld | exact hHeld.alloc hHeld.size _ | exact hHeld.trans (b1.mono hHeld.size))
          clear hKH KH hHeld
          have hHeld := hNew
          clear hNew
          refine wpAnyH_ready (rs := [2]) (by kernel_rfl) (by simp) ?_
          refine AllReadyH.cons (o := { dst := some 20, op := Op.call { callee := Callee.value (Operand.func 45), args := #[Operand.tmp 19], argTypes := #[3] }, type := 9, pos := "parts.go:83", after := #[{ on := 1, ground := Ground.data }], guard := none }) rfl (fun KH hKH => ?_) AllReadyH.nil
          go_simp
          ((go_at_call 45; refine (HX.out _).mono ?_; rintro e w1 ⟨rfl, b1⟩); try (have hk1 := cell_later b1 ((Bk.new (cs := #[.int .u8 (48 + (r : Int))]) (t := 5) rfl).get (j := 0) rfl)))
          try go_wp2_with fail
          refine hKH.out _ _ ?_ (fun hNew => ?_)
          · (first | exact (Below.refl _ _).drew | exact hHeld | exact hHeld.alloc hHeld.size _ | exact hHeld.trans (b1.mono hHeld.size))
          clear hKH KH hHeld
          have hHeld := hNew
          clear hNew
          refine wpAnyH_take (i := 9) (oi := { dst := some 27, op := Op.binOp BinOp.add 9 (Operand.tmp 20) (Operand.tmp 26) 9, type := 9, pos := "parts.go:83", after := #[{ on := 2, ground := Ground.data }, { on := 8, ground := Ground.data }], guard := none }) (v := ?_) rfl (by kernel_rfl) (by kernel_rfl) (by kernel_rfl) (fun _ _ _ h => h) (Or.inl ⟨by rfl, ?_⟩) (by assumption) ?_
          rotate_left
          · (intro w hSw; (try dsimp only at hSw); go_simp; try with_reducible rfl)
          try simp only [Act.put, List.setIfInBounds_toArray, List.set_cons_zero, List.set_cons_succ]
          refine wpAnyH_take (i := 10) (oi := { dst := some 2, op := Op.assign (Operand.tmp 27), type := 9, pos := "parts.go:83", after := #[{ on := 9, ground := Ground.data }, { on := 2, ground := Ground.chain }, { on := 0, ground := Ground.phase }, { on := 1, ground := Ground.phase }, { on := 2, ground := Ground.phase }, { on := 3, ground := Ground.phase }, { on := 4, ground := Ground.phase }, { on := 5, ground := Ground.phase }, { on := 6, ground := Ground.phase }, { on := 7, ground := Ground.phase }, { on := 8, ground := Ground.phase }, { on := 9, ground := Ground.phase }], guard := none }) (v := ?_) rfl (by kernel_rfl) (by kernel_rfl) (by kernel_rfl) (fun _ _ _ h => h) (Or.inl ⟨by rfl, ?_⟩) (by assumption) ?_
          rotate_left
          · (intro w hSw; (try dsimp only at hSw); go_simp; try with_reducible rfl)
          try simp only [Act.put, List.setIfInBounds_toArray, List.set_cons_zero, List.set_cons_succ]
          refine wpAnyH_done (by kernel_rfl) ?_ _
          refine NoPanic.normal ?_
          go_wp2
          go_ret
          exact ⟨congrArg (fun x => Ending.returned (.string x)) HE.out, hHeld⟩
end Go.Proofs.YtgeedjlbajmdkaaGreatDoor
