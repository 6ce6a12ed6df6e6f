/- 'TopWords' returns true for every input and leaves its arguments as they were; no condition. -/
import Derived.Test.YtkodbldfoldbjaaDoorTexts
import Derived.Test.YtkodbldfoldbjaaDoorWordsLaw
import Derived.Test.YtkodbldfoldbjaaDoorTie
import Derived.Test.YtkodbldfoldbjaaDoorCards
import Derived.Deep.DeepWitnessRowRef
import Derived.ProofKit
import Derived.OpenShut
import Derived.LaidMore
import Derived.Lay
import Derived.Stop.Joined
import Derived.SevenTiedAt
import Derived.ChangeMaps5
set_option linter.unusedSimpArgs false
set_option linter.unusedVariables false
namespace Go.Proofs.YtkodbldfoldbjaaDoor
open Go.RowKit Go.ChangeShapes Go.WideShapes Go.ChangeAt

theorem GM_of {w : World} (h : w.ShapedOpen Tryd.prog) : GM w := Tryd.laysM146.s1_3 w h
set_option maxRecDepth 100000 in
set_option maxHeartbeats 4000000 in
theorem TopWords_walk (a b : ByteArray) (w : World) (hg : GM w) (ha : a.size ≤ maxLen) (hb : b.size ≤ maxLen) :
    Calls Tryd.prog 7 #[.string a, .string b] w fun e w' => e = .returned (.bool true) ∧ Below w.heap.size w w' := by
  have hc : wordsB ⟨#[32, 120, 32, 32, 121]⟩ = [⟨#[120]⟩, ⟨#[121]⟩] := by decide +kernel
  have HC := hide (Words_any ⟨#[32, 120, 32, 32, 121]⟩ w hg (by decide))
  rw [hc] at HC
  obtain ⟨ip, hpi, hpz0, hpz1, hpz2⟩ := info_parts infoStr
  clear hc
  go_enter Tryd.func7, Tryd.ntmps7
  go_wp2_with fail
  refine HC.out.mono ?_
  rintro e w1 ⟨v1, rfl, o1, b1⟩
  clear HC
  obtain ⟨⟨a1, c1, rfl⟩, _⟩ := id o1
  have hw2 : Below w1.heap.size w1 (w1.alloc (.cells #[.string ⟨#[120]⟩, .string ⟨#[121]⟩] 9)) := (Below.refl _ _).alloc (Nat.le_refl _) _
  have HS := hide (SameTexts_refl a1 (some ⟨w1.heap.size, 0, none⟩) c1 2 [⟨#[120]⟩, ⟨#[121]⟩] (w1.alloc (.cells #[.string ⟨#[120]⟩, .string ⟨#[121]⟩] 9)) (by decide) ((o1.later hw2).sl encS_len) (Sl.lit encS_len (heap_new _ _) rfl))
  have hb2 := b1.trans (hw2.mono b1.size)
  clear o1 hw2 b1
  go_wp2_with fail
  refine HS.out.mono ?_
  rintro e w2 ⟨rfl, b2⟩
  have hb3 := hb2.trans (b2.mono hb2.size)
  clear HS hb2 b2
  by_cases h1 : a.size ≤ 200
  · have e1 : decide ((200 : Int) < (a.size : Int)) = false := by simp; omega
    by_cases h2 : b.size ≤ 200
    · have e2 : decide ((200 : Int) < (b.size : Int)) = false := by simp; omega
      have hg2 := hg.later hb3 (Nat.le_refl _)
      go_wp2_with fail
      refine (Words_any a _ hg2 (by omega)).mono ?_
      rintro e w3 ⟨v3, rfl, o3, b3⟩
      have hb4 := hb3.trans (b3.mono hb3.size)
      have hba := o3.base_le (b := w.heap.size) hb3.size
      rw [wordsB_eq] at hba
      have hmem : ∀ x ∈ wordsL (bytesOf a), 32 ∉ x ∧ x.length ≤ 200 ∧ x ≠ [] := by
        intro x hx
        obtain ⟨q1, q2, q3⟩ := words_mem hx
        have : (bytesOf a).length = a.size := tl_len a
        exact ⟨q1, by omega, q3⟩
      have hwl : (wordsL (bytesOf a)).length ≤ 201 := by
        have := words_len (bytesOf a)
        have h3 : (bytesOf a).length = a.size := tl_len a
        omega
      have HM := hide hmem
      have hba : Own 1 encS 9 w3 w.heap.size v3 ((wordsL (bytesOf a)).map tx) := hba
      have HWA : Hid (wordsL (bytesOf a) = wordsL (bytesOf a)) := rfl
      obtain ⟨ws, hws⟩ : ∃ ws, ws = wordsL (bytesOf a) := ⟨_, rfl⟩
      rw [← hws] at hba hwl HM
      have HWS := hide hws
      have HO := hide hba
      obtain ⟨⟨a3, c3, rfl⟩, _⟩ := id hba
      have hlm : ((ws.map tx)).length = ws.length := List.length_map _
      rw [hlm]
      clear hws hba o3 hmem HWA hlm b3 hb3 hg2
      go_wp2
      go_loopw [6, 7] (fun t i wr => ∃ k : Nat, k ≤ ws.length ∧ i = .int .i64 k ∧ t = .string (tx (blanked (ws.take k))) ∧ w3 = wr) (fun _ i _ => ws.length - (intOf i).toNat)
      case atStart => exact ⟨0, by omega, by go_num, rfl, rfl⟩
      case round =>
        obtain ⟨k, hk, rfl, rfl, rfl⟩ := hrel
        by_cases hlt : k < ws.length
        · obtain ⟨bb, off, x, e3, hbw, hlk, c0⟩ := (HO.out.sl encS_len).str (k := k) (by rw [List.length_map]; exact hlt)
          subst e3
          obtain ⟨wd, hwd, rfl⟩ : ∃ wd, ws[k]? = some wd ∧ tx wd = x := by
            rw [List.getElem?_map] at hlk
            cases hq : ws[k]? with
            | none => rw [hq] at hlk; cases hlk
            | some wd => rw [hq] at hlk; exact ⟨wd, rfl, Option.some.inj hlk⟩
          obtain ⟨q1, q2, q3⟩ := HM.out wd (List.mem_of_getElem? hwd)
          have hx : (tx wd).toList.isEmpty = false := by rw [tl, tx_list]; cases wd with | nil => exact absurd rfl q3 | cons a t => rfl
          have hx2 : (!(tx wd).toList.isEmpty) = true := by rw [hx]; rfl
          have hxs : (tx wd).size ≤ 200 := by rw [tx_size]; exact q2
          have Q1 := hide q1
          have HBL := hide (blanked_take_succ hwd)
          have hbs : (tx (blanked (ws.take k))).size ≤ 50000 := by
            rw [tx_size]
            have := blanked_len (fun w hw => (HM.out w hw).2.1) k
            have h2 : k * (200 + 1) ≤ 201 * 201 := Nat.mul_le_mul (by omega) (by omega)
            omega
          have HX : Hid (tx (blanked (ws.take k)) ++ tx wd ++ ⟨#[32]⟩ = tx (blanked (ws.take (k + 1)))) := by
            show _ = _
            rw [HBL.out, ← tx_app, ← tx_app]; rfl
          have HQ : Hid (∀ (j : Nat) (hj : j < (tx wd).size), ((((tx wd)[j]'hj).toNat : Int) == 32) = false) := by
            intro j hj
            rw [beq_eq_false_iff_ne]
            intro e
            refine Q1.out ?_
            have e2 : (tx wd)[j]'hj = 32 := UInt8.toNat_inj.1 (by show ((tx wd)[j]'hj).toNat = 32; omega)
            have h3 := bytes_get hj
            rw [e2] at h3
            have h4 := List.mem_of_getElem? h3
            rwa [show bytesOf (tx wd) = wd from tx_list wd] at h4
          clear hlk hwd q1 q2 q3 HBL
          generalize tx (blanked (ws.take k)) = acc at *
          generalize tx wd = x at *
          have f1 : (0 : Int) ≤ (k : Int) ∧ (k : Int) < (ws.length : Int) := by omega
          obtain ⟨f1, f2⟩ := f1
          go_wp2
          go_loop [8] (fun i => ∃ j : Nat, j ≤ x.size ∧ i = .int .i64 j) (fun i => x.size - (intOf i).toNat)
          case atStart => exact ⟨0, by omega, by go_num⟩
          case round =>
            obtain ⟨j, hj, rfl⟩ := hrel
            by_cases hjl : j < x.size
            · have hq := HQ.out j hjl
              have f3 : (0 : Int) ≤ (j : Int) ∧ (j : Int) < (x.size : Int) := by omega
              obtain ⟨f3, f4⟩ := f3
              go_wp2
              go_round
              case rel => exact ⟨j + 1, by omega, by go_num⟩
              case measure => (simp [intOf]; try omega)
            · obtain rfl : j = x.size := by omega
              go_wp2
              rw [HX.out]
              go_roundw
              case rel => exact ⟨k + 1, by omega, by go_num, rfl, trivial⟩
              case measure => (simp [intOf]; try omega)
        · obtain rfl : k = ws.length := by omega
          rw [List.take_length]
          have hbk : wordsB (tx (blanked ws)) = ws.map tx := by
            rw [wordsB_eq, tx_list, words_blanked ws fun w hw => ⟨(HM.out w hw).1, (HM.out w hw).2.2⟩]
          have HBK := hide hbk
          have hbs : (tx (blanked ws)).size ≤ 50000 := by
            rw [tx_size]
            have := blanked_len (fun w hw => (HM.out w hw).2.1) ws.length
            rw [List.take_length] at this
            have h2 : ws.length * (200 + 1) ≤ 201 * 201 := Nat.mul_le_mul (by omega) (by omega)
            omega
          have hn3 := HO.out.cap0
          clear hbk HM
          generalize tx (blanked ws) = sb at *
          have HAB : Hid (wordsB (a ++ ⟨#[32]⟩ ++ b) = ws.map tx ++ wordsB b) := by
            show _ = _
            have e : a ++ ⟨#[32]⟩ ++ b = tx (bytesOf a ++ 32 :: bytesOf b) := by
              conv => lhs; rw [← tx_of a, ← tx_of b]
              rw [show (⟨#[32]⟩ : ByteArray) = tx [32] from rfl, tx_app, tx_app]
              unfold bytesOf; simp
            rw [e, wordsB_eq, tx_list, words_app, List.map_append, wordsB_eq, ← HWS.out]; rfl
          have hwb : (wordsB b).length ≤ 201 := by
            rw [wordsB_eq, List.length_map]
            have := words_len (bytesOf b)
            have h3 : (bytesOf b).length = b.size := tl_len b
            show (wordsL (bytesOf b)).length ≤ _
            omega
          have hab : (a ++ ⟨#[32]⟩ ++ b).size ≤ 1000000 := by simp [ByteArray.size_append]; show _ + 1 + _ ≤ _; omega
          have hgs : ∀ w', Below w3.heap.size w3 w' → GM w' := fun w' hbw => (hg.later hb4 (Nat.le_refl _)).later hbw (Nat.le_refl _)
          have HGS := hide hgs
          have hsl3 := HO.out.sl encS_len
          clear hgs hg
          have hL : Hid (ws.length = (ws.map tx).length) := (List.length_map _).symm
          go_wp2_with (at_builtin; refine wpList_append_any encS_len _ _ 33 ip _ rfl rfl Tryd.underlying33 hpi hpz0 hpz1 hpz2 rfl (by decide) (by decide) (Own.nil (base := w3.heap.size)) (Below.refl w3.heap.size w3) (Nat.le_refl _) (ws.map tx) (by simp; omega) rfl a3 c3 _ hL.out rfl hn3 hsl3 (one_flat one_str) ?_; intro v5 w5 o5 b5 g5 a5; clear g5 a5)
          have O5 := hide o5
          clear o5
          have hb5 := hb4.trans (b5.mono hb4.size)
          go_wp2_with fail
          refine (Words_any b _ (HGS.out _ b5) (by omega)).mono ?_
          rintro e w6 ⟨v6, rfl, o6, b6⟩
          generalize wordsB b = wb at *
          have b56 := b5.trans (b6.mono b5.size)
          have O56 := hide (O5.out.later b6)
          obtain ⟨⟨a6, c6, rfl⟩, _⟩ := id o6
          have hn6 := o6.cap0
          have hsl6 := o6.sl encS_len
          clear o6 O5
          go_wp2_with (at_builtin; refine wpList_append_any encS_len _ _ 33 ip _ rfl rfl Tryd.underlying33 hpi hpz0 hpz1 hpz2 rfl (by decide) (by decide) O56.out b56 b56.size wb (by simp; omega) rfl a6 c6 _ rfl rfl hn6 hsl6 (one_flat one_str) ?_; intro v7 w7 o7 b7 g7 a7; clear g7 a7)
          have hb7 := hb4.trans (b7.mono hb4.size)
          have hlb : ([] ++ ws.map tx ++ wb).length ≤ 1000 := by simp; omega
          have HBE : Hid (ws.map tx ++ wb = [] ++ ws.map tx ++ wb) := rfl
          generalize hPP : [] ++ ws.map tx ++ wb = PP at *
          obtain ⟨⟨a7, c7, rfl⟩, _⟩ := id o7
          have O7 := hide o7
          clear o7 hPP
          go_wp2_with fail
          refine (Words_any sb _ (HGS.out _ b7) (by omega)).mono ?_
          rintro e w8 ⟨v8, rfl, o8, b8⟩
          have b78 := b7.trans (b8.mono b7.size)
          rw [HBK.out] at o8
          obtain ⟨⟨a8, c8, rfl⟩, _⟩ := id o8
          have HS8 := hide (SameTexts_refl a8 a3 c8 c3 (ws.map tx) w8 (by rw [List.length_map]; omega) (o8.sl encS_len) (hsl3.later b78 (Nat.le_refl _)))
          rw [List.length_map] at HS8
          rw [List.length_map]
          clear o8
          go_wp2_with fail
          refine HS8.out.mono ?_
          rintro e w9 ⟨rfl, b9⟩
          have b79 := b78.trans (b9.mono b78.size)
          have b789 := b8.trans (b9.mono b8.size)
          clear HS8
          go_wp2_with fail
          refine (Words_any _ _ (HGS.out _ (b7.trans (b789.mono b7.size))) hab).mono ?_
          rintro e w10 ⟨v10, rfl, o10, b10⟩
          have b710 := b789.trans (b10.mono b789.size)
          rw [HAB.out, HBE.out] at o10
          obtain ⟨⟨a10, c10, rfl⟩, _⟩ := id o10
          have HS10 := hide (SameTexts_refl a10 a7 c10 c7 PP w10 (by omega) (o10.sl encS_len) ((O7.out.later b710).sl encS_len))
          clear o10
          go_wp2_with fail
          refine HS10.out.mono ?_
          rintro e w11 ⟨rfl, b11⟩
          go_wp2
          go_ret
          exact ⟨rfl, (hb7.trans (b710.mono hb7.size)).trans (b11.mono ((hb7.trans (b710.mono hb7.size)).size))⟩
    · have e2 : decide ((200 : Int) < (b.size : Int)) = true := by simp; omega
      go_wp2
      go_ret
      exact ⟨rfl, hb3⟩
  · have e1 : decide ((200 : Int) < (a.size : Int)) = true := by simp; omega
    go_wp2
    go_ret
    exact ⟨rfl, hb3⟩
set_option maxRecDepth 100000 in
theorem TopWords_door (os : Os) (args : Array Value) : laidMetH Tryd.prog Rows.topWordsRow.laid ((World.laidAll Tryd.prog os Rows.topWordsRow.laid).forCall (fun _ _ => 0) ⟨#[], args, []⟩).memory :=
  by rw [MakeChecks.laidMetH_plain _ _ _ (by kernel_rfl)]; exact laidMet_laidAll _ (by kernel_rfl) (by kernel_rfl)
theorem TopWords_reads (os : Os) {H : Type} (enc : TypeId × Value → H) : ∃ places, DataW.whole enc Tryd.prog ((World.laidAll Tryd.prog os Rows.topWordsRow.laid).forCall (fun _ _ => 0) ⟨#[], #[.string ⟨#[]⟩, .string ⟨#[]⟩], []⟩).memory Tryd.f7.params.toList Rows.topWordsSpec.vars false (#[.string ⟨#[]⟩, .string ⟨#[]⟩] : Array Value).toList 8 = some ([.lit (.string []), .lit (.string [])], [], places) :=
  ⟨[], by kernel_rfl⟩
set_option maxRecDepth 100000 in
theorem TopWords_contract (H : Type) (enc : TypeId × Value → H) (W : World) (base : Nat) (args : Array Value) (ds gs : List (DataW H)) (before : List MemPlace)
    (hval0 : ∀ (j : Nat) t v, Tryd.f7.params[j]? = some t → args[j]? = some v → Value.okWide Tryd.prog W .any base t v)
    (hW : DataW.Whole enc Tryd.prog Tryd.f7.params.toList Rows.topWordsSpec.vars false W args.toList ds gs before) (hL : laidMetH Tryd.prog Rows.topWordsRow.laid W) (hSh : W.ShapedOpen Tryd.prog) :
    Calls Tryd.prog 7 args W fun e W' => ∃ v, e = .returned v ∧ Rows.topWordsSpec.post enc Tryd.prog Tryd.f7 false true false false W args v W' := by
  have hval : ∀ (j : Nat) t v, Tryd.f7.params[j]? = some t → args[j]? = some v → Value.okWide Tryd.prog W .any base t v := hval0
  have hW' := hW
  obtain ⟨p, q, hA0, hV, rfl, hfz, hnd⟩ := hW
  have hA : DataW.TrodAll enc Tryd.prog W 0 (fun _ => true) true Tryd.f7.params.toList args.toList ds p := hA0
  rw [Tryd.params7] at hA hval
  obtain ⟨v0, vs0, d0, ds0, p0, q0, hargs, rfl, rfl, h0, r0⟩ := trodAll_cons hA
  obtain ⟨v1, vs1, d1, ds1, p1, q1, rfl, rfl, rfl, h1, r1⟩ := trodAll_cons r0
  obtain ⟨rfl, rfl, rfl⟩ := trodAll_nil r1
  obtain rfl : args = #[v0, v1] := by cases args; simp_all
  obtain ⟨rfl, rfl⟩ := trodVars_none hV
  have lt0 : ∀ x ∈ p0, x.block < W.heap.size := by obtain ⟨m, hm⟩ := h0; exact DataW.trod_lt m _ _ _ hm
  have k0 := hval 0 9 v0 rfl rfl
  have g0 := h0
  have lt1 : ∀ x ∈ p1, x.block < W.heap.size := by obtain ⟨m, hm⟩ := h1; exact DataW.trod_lt m _ _ _ hm
  have k1 := hval 1 9 v1 rfl rfl
  have g1 := h1
  clear hA0 hval0
  obtain ⟨a, rfl, rfl, rfl, ha⟩ := Go.ChangeMaps.open_string Tryd.underlying9 k0 h0
  obtain ⟨b, rfl, rfl, rfl, hb⟩ := Go.ChangeMaps.open_string Tryd.underlying9 k1 h1
  refine (TopWords_walk a b W (GM_of hSh) ha hb).mono fun e W' ⟨he, bel⟩ => ?_
  subst he
  exact ⟨_, rfl, _, _, _, [], _, [], hW', trodAll_mk1 (shut_bool Tryd.underlying4 _), (trodAll_cons_mk (Below.trod laidOut (by kernel_rfl) (of_decide_eq_true (by kernel_rfl)) g0 bel lt0) (trodAll_cons_mk (Below.trod laidOut (by kernel_rfl) (of_decide_eq_true (by kernel_rfl)) g1 bel lt1) trodAll_mk0)), rfl, bel.frame _, fun h => by cases h⟩
set_option maxRecDepth 100000 in
theorem TopWords_lifted (os : Os) (started : os.Started) (H : Type) (enc : TypeId × Value → H) (F : Stop.Interp) :
    ReturnsInHanded {} Tryd.checked os 7 .any ((OpenSpec.ofChange Rows.topWordsSpec).preRow enc Tryd.prog Tryd.f7 Rows.topWordsRow.domain false Rows.topWordsRow.laid) (((OpenSpec.ofChange Rows.topWordsSpec).at F).post enc Tryd.prog Tryd.f7 false true false false) := by
  obtain ⟨places, hx⟩ := TopWords_reads os enc
  refine returnsInHanded_of_row (C := Tryd.checked) (s := OpenSpec.ofChange Rows.topWordsSpec) own started (by kernel_rfl) Tryd.func7
    (witness_row_atRef (enc := enc) (C := Tryd.checked) false (World.laidAll Tryd.prog os Rows.topWordsRow.laid) #[.string ⟨#[]⟩, .string ⟨#[]⟩] (World.laidAll_os _ _ _) (by kernel_rfl) (by kernel_rfl) (by kernel_rfl)
      (OpenSpec.preRow_of_cond 8 hx (by kernel_rfl) (fun k hk => by cases hk) (by kernel_rfl) (TopWords_door os _))) ?_
  intro W base args ds gs before hval hW _ hcond _ hL hSh _
  exact TopWords_contract H enc W base args ds gs before hval hW hL hSh

theorem TopWords_row : Rows.topWordsRow.holds Tryd.pinned (OpenSpec.ofChange Rows.topWordsSpec) :=
  OpenClaim.holds_of_cond 7 Tryd.f7 rfl rfl rfl rfl rfl rfl rfl ⟨rfl, rfl, rfl, rfl, rfl⟩ rfl rfl rfl rfl rfl (by kernel_rfl) Tryd.func7 (by kernel_rfl)
    (of_decide_eq_true (by kernel_rfl)) (by unfold Func.isWrapper; first | (rw [if_pos (by decide +kernel)]; kernel_rfl) | (rw [if_neg (by decide +kernel)]; exact ⟨rfl, rfl⟩))
    (fun os started H enc _ F => by rw [OpenClaim.pre_eq_preRow]; exact TopWords_lifted os started H enc F)
theorem TopWords_card : Rows.TopWordsCardSaid :=
  Claim7.holds_tied_plain_at .later [] _ _ _ _
    TopWords_row (fun _ h => by cases h) (by kernel_rfl) (fun _ h => by cases h) topWords_row_tie rfl ⟨rfl, rfl⟩ (by kernel_rfl) rfl
    (fun f fn hf hfn => by
      obtain rfl : f = 7 := Option.some.inj ((show Tryd.prog.funcNamed Rows.topWordsRow.func = some 7 by kernel_rfl).symm.trans hf) |>.symm
      obtain rfl : fn = Tryd.f7 := (Option.some.inj (Tryd.func7.symm.trans hfn)).symm
      exact ⟨by kernel_rfl, fun j t ht => by
        rw [Tryd.params7] at ht
        have hm : t ∈ [9, 9] := by simpa using Array.mem_of_getElem? ht
        have hall : ([9, 9].all fun u => !Tryd.prog.wantsStandIn u) = true := by kernel_rfl
        exact (show Tryd.prog.wantsStandIn t = false by simpa using List.all_eq_true.1 hall t hm)⟩)
    (by kernel_rfl)
#print axioms TopWords_card
end Go.Proofs.YtkodbldfoldbjaaDoor
