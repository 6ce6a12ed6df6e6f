/- The reference: the text of a job. -/
import Derived.Test.YtgeedjlbajmdkaaGreatDoorRefX
import Derived.Test.YtgeedjlbajmdkaaGreatDoorJText3
set_option linter.unusedSimpArgs false
set_option linter.unusedVariables false
namespace Go.Proofs.YtgeedjlbajmdkaaGreatDoor
open Go.RowKit

set_option maxRecDepth 100000 in
set_option maxHeartbeats 4000000 in
theorem RefJobText_any (ro : Option Addr) (rc : Nat) (rs : List RuleR) (fold slices : Int) (early : Bool) (w : World) (hjf : jobF (rs.map RuleR.v) fold slices = 0) (hs : Sl 15 encRule w ro rs) (hr : ∀ r ∈ rs, ∃ d, RuleAt w d r) :
    Calls Tryz.prog 12 #[.agg #[.slice ro rs.length rc, .int .i64 fold, .bool early, .int .i64 slices]] w fun e w' => e = .returned (.tuple #[.string (tx (textOut (rs.map RuleR.v) fold slices early).1), .int .i64 (textOut (rs.map RuleR.v) fold slices early).2]) ∧ Below w.heap.size w w' := by
  obtain ⟨W, hW⟩ : ∃ W, W = w.alloc (.cells #[.slice ro rs.length rc, .int .i64 fold, .bool early, .int .i64 slices] 24) := ⟨_, rfl⟩
  have hb0 : Below w.heap.size w W := by rw [hW]; exact (Below.refl _ _).alloc (Nat.le_refl _) _
  have hbk : Bk W w.heap.size [.slice ro rs.length rc, .int .i64 fold, .bool early, .int .i64 slices] := by rw [hW]; exact Bk.new rfl
  have HS := hide hs
  have HR := hide hr
  have HB := hide hb0
  have HBK := hide hbk
  have HWW := hide hW
  obtain ⟨RV, hRV⟩ : ∃ RV, RV = rs.map RuleR.v := ⟨_, rfl⟩
  rw [← hRV] at hjf ⊢
  have HRV := hide hRV
  clear hRV
  have HJF := hide hjf
  have hok := jobF_ok HJF.out
  obtain ⟨⟨hl1, hl4⟩, hf, hsl, hrok⟩ := hok
  rw [HRV.out, List.length_map] at hl1 hl4
  have HROK := hide hrok
  obtain ⟨m, hm⟩ : ∃ m : Nat, fold = (m : Int) := ⟨fold.toNat, by omega⟩
  subst hm
  have hm4 : 1 ≤ m ∧ m ≤ 4 := by omega
  have j0 := hbk.get (j := 0) rfl
  have j1 := hbk.get (j := 1) rfl
  have j2 := hbk.get (j := 2) rfl
  have j3 := hbk.get (j := 3) rfl
  clear hs hr hb0 hbk hW hjf
  go_enter Tryz.func12, Tryz.ntmps12
  go_upto_region 1 with (fail)
  rw [← HWW.out]
  clear HWW
  have HI := hide fun w' => Decimal_any slices w' (by omega) (by omega)
  have hfl : (tx (foldK m)).size ≤ 8 := by
    have : m = 1 ∨ m = 2 ∨ m = 3 ∨ m = 4 := by omega
    rcases this with rfl | rfl | rfl | rfl <;> decide
  have hil : (tx (Lib.itoa slices)).size ≤ 20 := by rw [tx_size]; exact itoa_len (by omega) (by omega)
  have HP : Hid ((tx (foldK m) ++ ⟨#[32]⟩) ++ tx (Lib.itoa slices) = tx (foldK m ++ 32 :: Lib.itoa slices)) := by
    show _ = _
    apply tl_inj
    rw [tl, tl, tx_list]
    simp [tx, ByteArray.data_append]
  obtain ⟨HD, hHD⟩ : ∃ HD, HD = headT m slices early := ⟨_, rfl⟩
  have HHD := hide hHD
  have hhl : HD.length ≤ 60 := by
    rw [hHD]
    have h1 : (foldK m).length ≤ 8 := by rw [tx_size] at hfl; exact hfl
    have h2 : (Lib.itoa slices).length ≤ 20 := by rw [tx_size] at hil; exact hil
    unfold headT
    simp only [List.length_append, List.length_cons]
    split <;> simp only [List.length_cons, List.length_nil] <;> omega
  clear hHD hf hsl hrok
  have g0 : (0 : Int) ≤ (m : Int) ∧ (m : Int) < 5 := by omega
  obtain ⟨g0, g1⟩ := g0
  go_upto_region 2 with (fail)
  obtain ⟨W2, hW2⟩ : ∃ W2, W2 = W.alloc (.cells #[.string ⟨#[]⟩, .string ⟨#[115, 117, 109]⟩, .string ⟨#[108, 101, 97, 115, 116]⟩, .string ⟨#[103, 114, 101, 97, 116, 101, 115, 116]⟩, .string ⟨#[99, 111, 117, 110, 116]⟩] 9) := ⟨_, rfl⟩
  have hb2 : Below W.heap.size W W2 := by rw [hW2]; exact (Below.refl _ _).alloc (Nat.le_refl _) _
  have hk2 : Bk W2 W.heap.size (foldsL.map Value.string) := by rw [hW2]; exact Bk.new rfl
  have c4 : W2.cell? ⟨W.heap.size, m, none⟩ = some (.string (tx (foldK m))) := by
    refine hk2.get (j := m) ?_
    have : m = 1 ∨ m = 2 ∨ m = 3 ∨ m = 4 := by omega
    rcases this with rfl | rfl | rfl | rfl <;> rfl
  rw [← hW2]
  replace j0 := cell_later hb2 j0
  replace j1 := cell_later hb2 j1
  replace j2 := cell_later hb2 j2
  replace j3 := cell_later hb2 j3
  replace HB := hide (HB.out.trans (hb2.mono HB.out.size))
  replace HBK := hide (HBK.out.later hb2)
  clear hb2 hk2 hW2
  go_cut [5] from 9 to 18 (fun sv wc => sv = .string (tx (foldK m ++ 32 :: Lib.itoa slices)) ∧ Hid (Below W2.heap.size W2 wc))
  case first =>
    generalize tx (foldK m) = F0 at *
    generalize tx (Lib.itoa slices) = D0 at *
    have u0 := cell_regrown j1
    have u1 := cell_regrown j3
    have u2 := cell_regrown c4
    clear j0 j1 j2 j3 c4
    refine wp_region_quiet_below (by kernel_rfl) (by kernel_rfl) ?_
    repeat (go_big_quiet_step (first
      | (go_at_call 45; exact Calls.regrown_of (HI.out _))))
    refine wpQuiet_nil ?_
    intro _ hw'
    obtain ⟨⟨dq, osq⟩, hw''⟩ := hw'
    subst hw''
    go_wp2
    go_meet
    exact ⟨by rw [HP.out], below_regrown _ _ _⟩
  case rest =>
  obtain ⟨rfl, HBC⟩ := hcut
  have HBC2 := hide (HB.out.trans (HBC.out.mono HB.out.size))
  replace HBK := hide (HBK.out.later HBC.out)
  replace j0 := cell_later HBC.out j0
  replace j2 := cell_later HBC.out j2
  clear HI HP g0 g1 j1 j3 c4 HBC HB
  have hpl : (tx (foldK m ++ 32 :: Lib.itoa slices)).size ≤ 60 := by
    rw [tx_size] at hfl hil ⊢
    simp only [List.length_append, List.length_cons]; omega
  have HE1 : Hid (early = true → tx (foldK m ++ 32 :: Lib.itoa slices) ++ ⟨#[32, 101, 97, 114, 108, 121]⟩ = tx HD) := fun he => by
    rw [HHD.out, headT, if_pos he]
    apply tl_inj
    rw [tl, tl, tx_list]
    simp [tx, ByteArray.data_append]
  have HE0 : Hid (early = false → tx (foldK m ++ 32 :: Lib.itoa slices) = tx HD) := fun he => by
    rw [HHD.out, headT, if_neg (by rw [he]; decide), List.append_nil]
  generalize tx (foldK m ++ 32 :: Lib.itoa slices) = H0 at *
  have n1 : ¬ 9223372036854775807 < H0.size + 6 := by omega
  go_upto_if 20 with (fail)
  go_cut [5] from 21 to 22 (fun sv wc => sv = .string (tx HD) ∧ Hid (Below w.heap.size w wc) ∧ Hid (Bk wc w.heap.size [.slice ro rs.length rc, .int .i64 m, .bool early, .int .i64 slices]))
  case first =>
    cases early with
    | true =>
      have HE := hide (HE1.out rfl)
      clear HE1 HE0
      go_wp2
      go_meet
      exact ⟨by rw [← HE.out], HBC2, HBK⟩
    | false =>
      have HE := hide (HE0.out rfl)
      clear HE1 HE0
      go_wp2
      go_meet
      exact ⟨by rw [← HE.out], HBC2, HBK⟩
  case rest =>
  clear j0 j2 HBC2 HBK
  obtain ⟨rfl, HB, HBK⟩ := hcut
  clear HE1 HE0 n1 hpl
  have j0 := HBK.out.get (j := 0) rfl
  have hds : (tx HD).size ≤ 60 := by rw [tx_size]; exact hhl
  have n1 : ¬ 9223372036854775807 < (tx HD).size + 1 := by omega
  have hlen : RV.length = rs.length := by rw [HRV.out]; simp
  have HP0 : Hid (tx HD ++ ⟨#[10]⟩ = tx (HD ++ 10 :: linesT (RV.take 0))) := by
    show _ = _
    apply tl_inj
    rw [tl, tl, tx_list]
    simp [tx, ByteArray.data_append, linesT]
  have HSZ : Hid (∀ j, j ≤ RV.length → (tx (HD ++ 10 :: linesT (RV.take j))).size ≤ 40000) := fun j hj => by
    have h1 := linesT_len (RV.take j) fun r hr => HROK.out r (List.mem_of_mem_take hr)
    rw [List.length_take] at h1
    rw [tx_size, List.length_append, List.length_cons]
    omega
  have HLN := hide hlen
  clear hlen
  go_wp2
  rw [HP0.out]
  go_loopw [5, 6] (fun sv iv wr => ∃ j : Nat, j ≤ rs.length ∧ iv = .int .i64 j ∧ sv = .string (tx (HD ++ 10 :: linesT (RV.take j))) ∧ Hid (Below w.heap.size w wr) ∧ Hid (Bk wr w.heap.size [.slice ro rs.length rc, .int .i64 m, .bool early, .int .i64 slices])) (fun _ iv _ => rs.length - (intOf iv).toNat)
  case atStart => exact ⟨0, by omega, rfl, rfl, HB, HBK⟩
  case round =>
    clear HP0 n1 HBK HB j0
    obtain ⟨j, hj, rfl, rfl, HB, HBK⟩ := hrel
    have j0 := HBK.out.get (j := 0) rfl
    by_cases hlt : j < rs.length
    · obtain ⟨b, off, r, rfl, hbw, hx, hc⟩ := (HS.out.later HB.out (Nat.le_refl _)).rule hlt
      obtain ⟨d, hrd⟩ := HR.out r (List.mem_of_getElem? hx)
      have hxv : RV[j]? = some r.v := by rw [HRV.out, List.getElem?_map, hx]; rfl
      have hrf : ruleF r.v = 0 := HROK.out _ (List.mem_of_getElem? hxv)
      obtain ⟨z1, z2, z3, z4, z5, z6⟩ := ruleT_len hrf
      have hS0 := HSZ.out j (by rw [HLN.out]; omega)
      have HFIN : Hid (tx (((HD ++ 10 :: linesT (RV.take j)) ++ eachT r.each ++ whenT r.v) ++ [107, 101, 121, 32] ++ textX r.key.tree ++ [32, 118, 97, 108, 32] ++ textX r.val.tree ++ [10]) = tx (HD ++ 10 :: linesT (RV.take (j + 1)))) := by
        show _ = _
        rw [linesT_succ hxv, ruleT]
        simp [RuleR.v]
      obtain ⟨hok, hbl, _⟩ := rule_parts hrf
      have hwn := hok.whn
      have HCO := hide hok.cond
      have HTX := hide hok.txt
      have HKO := hide hok.key
      have HVO := hide hok.val
      have hel : (eachT r.each).length ≤ 5 := by unfold eachT; split <;> decide
      obtain ⟨P0, hP0⟩ : ∃ P0, P0 = HD ++ 10 :: linesT (RV.take j) := ⟨_, rfl⟩
      rw [← hP0] at HFIN hS0 ⊢
      clear hP0
      obtain ⟨wh, hwh⟩ : ∃ wh, r.when_ = wh := ⟨_, rfl⟩
      have hwn2 : wh = 0 ∨ wh = 1 ∨ wh = 2 := by rw [← hwh]; exact hwn
      have HWH := hide hwh
      have k0 : wr.cell? ⟨b, off + j * 15, none⟩ = some (.bool r.each) := hc 0 _ rfl
      have k1 := hc 1 _ rfl
      have k2 := hc 2 _ rfl
      have k3 := hc 3 _ rfl
      have k4 := hc 4 _ rfl
      have k5 := hc 5 _ rfl
      have k6 := hc 6 _ rfl
      have k7 := hc 7 _ rfl
      have k8 := hc 8 _ rfl
      have k9 := hc 9 _ rfl
      have k10 := hc 10 _ rfl
      have k11 := hc 11 _ rfl
      have k12 := hc 12 _ rfl
      have k13 := hc 13 _ rfl
      have k14 := hc 14 _ rfl
      have f1 : (0 : Int) ≤ (j : Int) ∧ (j : Int) < (rs.length : Int) := by omega
      obtain ⟨f1, f2⟩ := f1
      clear hx hxv hrf hc hok hbl hwn hwh
      go_upto_region 10 with (fail)
      have hbA : Below wr.heap.size wr (wr.alloc (.cells #[.bool r.each, .int .i64 r.when_, .int .i64 r.cond.k, .int .i64 r.cond.n, .string r.cond.s, .slice r.cond.ao r.cond.a.length r.cond.cap, .string r.txt, .int .i64 r.key.k, .int .i64 r.key.n, .string r.key.s, .slice r.key.ao r.key.a.length r.key.cap, .int .i64 r.val.k, .int .i64 r.val.n, .string r.val.s, .slice r.val.ao r.val.a.length r.val.cap] 69)) := (Below.refl _ _).alloc (Nat.le_refl _) _
      have hbk2 : Bk (wr.alloc (.cells #[.bool r.each, .int .i64 r.when_, .int .i64 r.cond.k, .int .i64 r.cond.n, .string r.cond.s, .slice r.cond.ao r.cond.a.length r.cond.cap, .string r.txt, .int .i64 r.key.k, .int .i64 r.key.n, .string r.key.s, .slice r.key.ao r.key.a.length r.key.cap, .int .i64 r.val.k, .int .i64 r.val.n, .string r.val.s, .slice r.val.ao r.val.a.length r.val.cap] 69)) wr.heap.size (encRule r) := Bk.new rfl
      replace k0 := hbk2.get (j := 0) rfl
      replace k1 := hbk2.get (j := 1) rfl
      replace k2 := hbk2.get (j := 2) rfl
      replace k3 := hbk2.get (j := 3) rfl
      replace k4 := hbk2.get (j := 4) rfl
      replace k5 := hbk2.get (j := 5) rfl
      replace k6 := hbk2.get (j := 6) rfl
      replace k7 := hbk2.get (j := 7) rfl
      replace k8 := hbk2.get (j := 8) rfl
      replace k9 := hbk2.get (j := 9) rfl
      replace k10 := hbk2.get (j := 10) rfl
      replace k11 := hbk2.get (j := 11) rfl
      replace k12 := hbk2.get (j := 12) rfl
      replace k13 := hbk2.get (j := 13) rfl
      replace k14 := hbk2.get (j := 14) rfl
      have HB2 := hide (HB.out.trans (hbA.mono HB.out.size))
      have HRA := hide fun w' (hb : Below w.heap.size w w') => hrd.later hb (Nat.le_refl _)
      have HK2 := hide (HBK.out.later hbA)
      clear HBK j0 hbA hbk2 hrd
      generalize wr.alloc (.cells #[.bool r.each, .int .i64 r.when_, .int .i64 r.cond.k, .int .i64 r.cond.n, .string r.cond.s, .slice r.cond.ao r.cond.a.length r.cond.cap, .string r.txt, .int .i64 r.key.k, .int .i64 r.key.n, .string r.key.s, .slice r.key.ao r.key.a.length r.key.cap, .int .i64 r.val.k, .int .i64 r.val.n, .string r.val.s, .slice r.val.ao r.val.a.length r.val.cap] 69) = W2 at *
      rw [HWH.out] at k1
      obtain ⟨eb, heb⟩ : ∃ eb, r.each = eb := ⟨_, rfl⟩
      have HEB := hide heb
      rw [heb] at k0
      clear heb
      have hPE : (tx (P0 ++ eachT r.each)).size ≤ 40005 := by rw [tx_size] at hS0 ⊢; rw [List.length_append]; omega
      go_upto_if 38 with (fail)
      go_cut [5] from 39 to 40 (fun sv wc => sv = .string (tx (P0 ++ eachT r.each)) ∧ wc = W2)
      case first =>
        have n1 : ¬ 9223372036854775807 < (tx P0).size + 5 := by omega
        cases eb with
        | true =>
          have HE : Hid (tx P0 ++ ⟨#[101, 97, 99, 104, 32]⟩ = tx (P0 ++ eachT r.each)) := by
            show _ = _
            rw [HEB.out]
            apply tl_inj
            rw [tl, tl, tx_list]
            simp [tx, ByteArray.data_append, eachT]
          go_wp2
          go_meet
          exact ⟨by rw [← HE.out], rfl⟩
        | false =>
          have HE : Hid (tx P0 = tx (P0 ++ eachT r.each)) := by show _ = _; rw [HEB.out]; simp [eachT]
          go_wp2
          go_meet
          exact ⟨by rw [← HE.out], rfl⟩
      case rest =>
      obtain ⟨rfl, rfl⟩ := hcut
      have hPW : (tx (P0 ++ eachT r.each ++ whenT r.v)).size ≤ 43105 := by rw [tx_size] at hPE ⊢; rw [List.length_append]; omega
      obtain ⟨P1, hP1⟩ : ∃ P1, P1 = P0 ++ eachT r.each := ⟨_, rfl⟩
      rw [← hP1] at HFIN hPE hPW ⊢
      clear hP1
      have HT := hide fun (h : wh ≠ 0) w' (hb : Below wc.heap.size wc w') => exprText_any d r.cond.k r.cond.n r.cond.s r.cond.a r.cond.ao r.cond.cap w' true r.each (HRA.out w' (HB2.out.trans (hb.mono HB2.out.size))).cond (HCO.out (by show r.when_ ≠ 0; rw [HWH.out]; exact h)).2.2 (Nat.le_trans (HCO.out (by show r.when_ ≠ 0; rw [HWH.out]; exact h)).1 (by decide))
      have HQ := hide fun w' => (RefQuoted_any r.txt w' (by have : r.txt.size ≤ 20 := HTX.out; omega)).mono fun e w'' h => (⟨h.1, by rw [h.2]; exact Below.refl _ _⟩ : e = _ ∧ Below w'.heap.size w' w'')
      have HW1 : Hid (wh = 1 → tx P1 ++ ⟨#[115, 97, 109, 101, 32]⟩ ++ tx (textX (.mk r.cond.k r.cond.n r.cond.s r.cond.a)) ++ ⟨#[32]⟩ ++ tx (quoteL r.txt.data.toList) ++ ⟨#[32]⟩ = tx (P1 ++ whenT r.v)) := fun h => by
        rw [whenT, if_neg (by show ¬ r.when_ = 0; rw [HWH.out, h]; decide), if_pos (by show r.when_ = 1; rw [HWH.out, h])]
        apply tl_inj
        rw [tl, tl, tx_list]
        simp [tx, ByteArray.data_append, RuleR.v, ExR.tree]
      have HW2 : Hid (wh = 2 → tx P1 ++ ⟨#[111, 116, 104, 101, 114, 32]⟩ ++ tx (textX (.mk r.cond.k r.cond.n r.cond.s r.cond.a)) ++ ⟨#[32]⟩ ++ tx (quoteL r.txt.data.toList) ++ ⟨#[32]⟩ = tx (P1 ++ whenT r.v)) := fun h => by
        rw [whenT, if_neg (by show ¬ r.when_ = 0; rw [HWH.out, h]; decide), if_neg (by show ¬ r.when_ = 1; rw [HWH.out, h]; decide)]
        apply tl_inj
        rw [tl, tl, tx_list]
        simp [tx, ByteArray.data_append, RuleR.v, ExR.tree]
      have z1' : (tx (textX (.mk r.cond.k r.cond.n r.cond.s r.cond.a))).size ≤ 3030 := by rw [tx_size]; exact z1
      have z4' : (tx (quoteL r.txt.data.toList)).size ≤ 42 := by rw [tx_size]; exact z4
      obtain ⟨q1, hq1⟩ : ∃ q1 : ByteArray, q1 = if wh = 1 then tx (P1 ++ whenT r.v) else tx P1 := ⟨_, rfl⟩
      have HQ1 := hide hq1
      have hqs : q1.size ≤ 43105 := by rw [hq1]; split; exact hPW; omega
      have HZ : Hid (wh = 0 → tx P1 = tx (P1 ++ whenT r.v)) := fun h => by
        rw [whenT, if_pos (show r.v.when_ = 0 by show r.when_ = 0; rw [HWH.out, h]), List.append_nil]
      clear hq1
      obtain ⟨tb, htb⟩ : ∃ tb, (wh == 1) = tb := ⟨_, rfl⟩
      go_upto_if 43 with (fail)
      have HTB := hide htb
      clear htb
      go_cut [5] from 44 to 55 (fun sv wd => sv = .string q1 ∧ Hid (Below wc.heap.size wc wd))
      case first =>
        cases tb with
        | false =>
          have hw1 : ¬ wh = 1 := by have := HTB.out; simpa using this
          have HE : Hid (tx P1 = q1) := by show _ = _; rw [HQ1.out, if_neg hw1]
          clear hw1
          go_wp2
          go_meet
          exact ⟨by rw [← HE.out], Below.refl _ _⟩
        | true =>
          have hw1 : wh = 1 := by have := HTB.out; simpa using this
          subst hw1
          have HE : Hid (tx P1 ++ ⟨#[115, 97, 109, 101, 32]⟩ ++ tx (textX (.mk r.cond.k r.cond.n r.cond.s r.cond.a)) ++ ⟨#[32]⟩ ++ tx (quoteL r.txt.data.toList) ++ ⟨#[32]⟩ = q1) := by show _ = _; rw [HQ1.out, if_pos rfl, HW1.out rfl]
          have HT1 := hide (HT.out (by decide))
          clear HT
          generalize tx (textX (.mk r.cond.k r.cond.n r.cond.s r.cond.a)) = T0 at *
          generalize tx (quoteL r.txt.data.toList) = Q0 at *
          generalize tx P1 = S1 at *
          have u2 := cell_regrown k2
          have u3 := cell_regrown k3
          have u4 := cell_regrown k4
          have u5 := cell_regrown k5
          have u6 := cell_regrown k6
          clear k0 k1 k2 k3 k4 k5 k6 k7 k8 k9 k10 k11 k12 k13 k14
          go_upto_region 13 with (fail)
          refine wp_region_quiet_below (by kernel_rfl) (by kernel_rfl) ?_
          repeat (go_big_quiet_step (first
            | (go_at_call 46; exact Calls.regrown_of (HT1.out _ (below_regrown _ _ _)))
            | (go_at_call 47; exact Calls.regrown_of (HQ.out _))))
          refine wpQuiet_nil ?_
          intro _ hw'
          obtain ⟨⟨dq, osq⟩, hw''⟩ := hw'
          subst hw''
          go_wp2
          go_meet
          exact ⟨by rw [← HE.out], below_regrown _ _ _⟩
      case rest =>
      obtain ⟨rfl, HBD⟩ := hcut
      obtain ⟨wd, rfl⟩ : ∃ wd, wd = wc := ⟨_, rfl⟩
      have HB3 := hide (HB2.out.trans (HBD.out.mono HB2.out.size))
      have HK3 := hide (HK2.out.later HBD.out)
      have HTD := hide fun (h : wh ≠ 0) w' (hb : Below wd.heap.size wd w') => HT.out h w' (HBD.out.trans (hb.mono HBD.out.size))
      replace k0 := cell_later HBD.out k0
      replace k1 := cell_later HBD.out k1
      replace k2 := cell_later HBD.out k2
      replace k3 := cell_later HBD.out k3
      replace k4 := cell_later HBD.out k4
      replace k5 := cell_later HBD.out k5
      replace k6 := cell_later HBD.out k6
      replace k7 := cell_later HBD.out k7
      replace k8 := cell_later HBD.out k8
      replace k9 := cell_later HBD.out k9
      replace k10 := cell_later HBD.out k10
      replace k11 := cell_later HBD.out k11
      replace k12 := cell_later HBD.out k12
      replace k13 := cell_later HBD.out k13
      replace k14 := cell_later HBD.out k14
      clear HT HTB HBD HB2
      obtain ⟨tb, htb⟩ : ∃ tb, (wh == 2) = tb := ⟨_, rfl⟩
      go_upto_if 58 with (fail)
      have HTB := hide htb
      clear htb
      go_cut [5] from 59 to 70 (fun sv we => sv = .string (tx (P1 ++ whenT r.v)) ∧ Hid (Below wd.heap.size wd we))
      case first =>
        cases tb with
        | false =>
          have HE : Hid (q1 = tx (P1 ++ whenT r.v)) := by
            have hw2 : ¬ wh = 2 := by have := HTB.out; simpa using this
            show _ = _
            rw [HQ1.out]
            by_cases h1 : wh = 1
            · rw [if_pos h1]
            · rw [if_neg h1, HZ.out (by omega)]
          go_wp2
          go_meet
          exact ⟨by rw [HE.out], Below.refl _ _⟩
        | true =>
          have hw1 : wh = 2 := by have := HTB.out; simpa using this
          subst hw1
          obtain rfl : q1 = tx P1 := by rw [HQ1.out, if_neg (by decide)]
          have HE := hide (HW2.out rfl)
          have HT1 := hide (HTD.out (by decide))
          clear HTD HQ1
          generalize tx (P1 ++ whenT r.v) = q1 at *
          generalize tx (textX (.mk r.cond.k r.cond.n r.cond.s r.cond.a)) = T0 at *
          generalize tx (quoteL r.txt.data.toList) = Q0 at *
          generalize tx P1 = S1 at *
          have u2 := cell_regrown k2
          have u3 := cell_regrown k3
          have u4 := cell_regrown k4
          have u5 := cell_regrown k5
          have u6 := cell_regrown k6
          clear k0 k1 k2 k3 k4 k5 k6 k7 k8 k9 k10 k11 k12 k13 k14
          go_upto_region 15 with (fail)
          refine wp_region_quiet_below (by kernel_rfl) (by kernel_rfl) ?_
          repeat (go_big_quiet_step (first
            | (go_at_call 46; exact Calls.regrown_of (HT1.out _ (below_regrown _ _ _)))
            | (go_at_call 47; exact Calls.regrown_of (HQ.out _))))
          refine wpQuiet_nil ?_
          intro _ hw'
          obtain ⟨⟨dq, osq⟩, hw''⟩ := hw'
          subst hw''
          go_wp2
          go_meet
          exact ⟨by rw [← HE.out], below_regrown _ _ _⟩
      case rest =>
      obtain ⟨rfl, HBE⟩ := hcut
      obtain ⟨we, rfl⟩ : ∃ we, we = wc := ⟨_, rfl⟩
      have HB4 := hide (HB3.out.trans (HBE.out.mono HB3.out.size))
      have HK4 := hide (HK3.out.later HBE.out)
      obtain ⟨ck1, ck2, ck3⟩ := HKO.out
      obtain ⟨cv1, cv2, cv3⟩ := HVO.out
      have HTK := hide fun w' (hb : Below we.heap.size we w') => exprText_any d r.key.k r.key.n r.key.s r.key.a r.key.ao r.key.cap w' true r.each (HRA.out w' (HB4.out.trans (hb.mono HB4.out.size))).key ck3 (Nat.le_trans ck1 (by decide))
      have HTV := hide fun w' (hb : Below we.heap.size we w') => exprText_any d r.val.k r.val.n r.val.s r.val.a r.val.ao r.val.cap w' false r.each (HRA.out w' (HB4.out.trans (hb.mono HB4.out.size))).val cv3 (Nat.le_trans cv1 (by decide))
      have HE : Hid (((((tx (P1 ++ whenT r.v) ++ ⟨#[107, 101, 121, 32]⟩) ++ tx (textX (.mk r.key.k r.key.n r.key.s r.key.a))) ++ ⟨#[32, 118, 97, 108, 32]⟩) ++ tx (textX (.mk r.val.k r.val.n r.val.s r.val.a))) ++ ⟨#[10]⟩ = tx (HD ++ 10 :: linesT (RV.take (j + 1)))) := by
        show _ = _
        rw [← HFIN.out]
        apply tl_inj
        rw [tl, tl, tx_list]
        simp [tx, ByteArray.data_append, ExR.tree]
      have z2' : (tx (textX (.mk r.key.k r.key.n r.key.s r.key.a))).size ≤ 3030 := by rw [tx_size]; exact z2
      have z3' : (tx (textX (.mk r.val.k r.val.n r.val.s r.val.a))).size ≤ 3030 := by rw [tx_size]; exact z3
      clear ck1 ck2 ck3 cv1 cv2 cv3
      generalize tx (textX (.mk r.key.k r.key.n r.key.s r.key.a)) = T0 at *
      generalize tx (textX (.mk r.val.k r.val.n r.val.s r.val.a)) = Q0 at *
      generalize tx (P1 ++ whenT r.v) = S1 at *
      have u7 := cell_regrown (cell_later HBE.out k7)
      have u8 := cell_regrown (cell_later HBE.out k8)
      have u9 := cell_regrown (cell_later HBE.out k9)
      have u10 := cell_regrown (cell_later HBE.out k10)
      have u11 := cell_regrown (cell_later HBE.out k11)
      have u12 := cell_regrown (cell_later HBE.out k12)
      have u13 := cell_regrown (cell_later HBE.out k13)
      have u14 := cell_regrown (cell_later HBE.out k14)
      clear k0 k1 k2 k3 k4 k5 k6 k7 k8 k9 k10 k11 k12 k13 k14
      go_upto_region 16 with (fail)
      refine wp_region_quiet_below (by kernel_rfl) (by kernel_rfl) ?_
      repeat (go_big_quiet_step (first
        | (go_at_call_of 46 (Value.agg #[Value.int IntKind.i64 r.key.k, Value.int IntKind.i64 r.key.n, Value.string r.key.s, Value.slice r.key.ao r.key.a.length r.key.cap]); exact Calls.regrown_of (HTK.out _ (below_regrown _ _ _)))
        | (go_at_call_of 46 (Value.agg #[Value.int IntKind.i64 r.val.k, Value.int IntKind.i64 r.val.n, Value.string r.val.s, Value.slice r.val.ao r.val.a.length r.val.cap]); exact Calls.regrown_of (HTV.out _ (below_regrown _ _ _)))))
      refine wpQuiet_nil ?_
      intro _ hw'
      obtain ⟨⟨dq, osq⟩, hw''⟩ := hw'
      subst hw''
      have HB5 := hide (HB4.out.trans ((below_regrown we dq osq).mono HB4.out.size))
      have HK5 := hide (HK4.out.later (below_regrown we dq osq))
      clear u7 u8 u9 u10 u11 u12 u13 u14 HTK HTV
      go_wp2
      go_roundw
      case rel => exact ⟨j + 1, by omega, by go_num, by rw [← HE.out], HB5, HK5⟩
      case measure => (simp [intOf]; try omega)
    · obtain rfl : j = rs.length := by omega
      have hS0 := HSZ.out rs.length (by rw [HLN.out]; omega)
      have HT : Hid (HD ++ 10 :: linesT (RV.take rs.length) = jobT RV m slices early) := by
        show _ = _
        rw [List.take_of_length_le (by rw [HLN.out]; omega), HHD.out]; rfl
      rw [HT.out] at hS0 ⊢
      have e1 : decide ((rs.length : Int) < (rs.length : Int)) = false := by simp
      by_cases h8 : 800 < (tx (jobT RV m slices early)).size
      · have HO : Hid (textOut RV m slices early = ([], 2)) := by
          rw [tx_size] at h8
          show _ = _
          unfold textOut
          rw [if_neg (by rw [HJF.out]; simp), if_pos h8]
        go_wp2
        go_ret2
        exact ⟨by rw [HO.out]; rfl, HB.out⟩
      · have HO : Hid (textOut RV m slices early = (jobT RV m slices early, 0)) := by
          rw [tx_size] at h8
          show _ = _
          unfold textOut
          rw [if_neg (by rw [HJF.out]; simp), if_neg h8]
        go_wp2
        go_ret2
        exact ⟨by rw [HO.out]; rfl, HB.out⟩
end Go.Proofs.YtgeedjlbajmdkaaGreatDoor
