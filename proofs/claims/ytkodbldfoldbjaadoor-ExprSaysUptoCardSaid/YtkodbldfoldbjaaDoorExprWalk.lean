/- ExprSays: the law's walk. -/
import Derived.Test.YtkodbldfoldbjaaDoorExprR5
import Derived.Test.YtkodbldfoldbjaaDoorWordsLaw
import Derived.ProofKit
import Derived.ChangeMaps5
set_option linter.unusedSimpArgs false
set_option linter.unusedVariables false
namespace Go.Proofs.YtkodbldfoldbjaaDoor
open Go.RowKit Go.ChangeShapes Go.WideShapes Go.ChangeAt

theorem GM_of {w : World} (h : w.ShapedOpen Tryd.prog) : GM w := Tryd.laysM146.s1_3 w h
theorem words_line {line : ByteArray} (h : line.size ≤ 300) : (wordsB line).length ≤ 301 ∧ ∀ x ∈ wordsB line, x.size ≤ 1000 := by
  rw [wordsB_eq, List.length_map]
  have h3 := tl_len line
  constructor
  · have := words_len line.data.toList
    omega
  · intro x hx
    obtain ⟨l, hl, rfl⟩ := List.mem_map.1 hx
    rw [tx_size]
    have := (words_mem hl).2.1
    omega
set_option maxRecDepth 100000 in
set_option maxHeartbeats 8000000 in
theorem ExprSays_walk (d : Nat) (k n : Int) (s : ByteArray) (a : List ExprV) (ao : Option Addr) (cap : Nat) (text each : Bool) (line : ByteArray) (which : Int) (w : World) (hg : GM w) (h : ExAt w d (.mk k n s a) (encX k n s ao a.length cap)) (hsm : (ExprV.mk k n s a).nodes ≤ 2000000) (hls : line.size ≤ maxLen) :
    Calls Tryd.prog 3 #[.agg #[.int .i64 k, .int .i64 n, .string s, .slice ao a.length cap], .bool text, .bool each, .string line, .int .i64 which] w fun e w' => e = .returned (.bool true) ∧ Below w.heap.size w w' := by
  obtain ⟨c0, c1, c2, c3⟩ := box_cells w k n s ao a.length cap
  have hb1 := box_below w k n s ao a.length cap
  have HG := hide (hg.later hb1 (Nat.le_refl _))
  have HE := hide (h.later hb1 (Nat.le_refl _))
  have HB1 := hide hb1
  have HX := hide (exprs_any (boxX w k n s ao a.length cap) HG.out)
  have hs1 : (boxX w k n s ao a.length cap).heap.size = w.heap.size + 1 := by simp
  clear h hg hb1
  simp only [boxX] at c0 c1 c2 c3 HG HE HB1 HX hs1
  go_enter Tryd.func3, Tryd.ntmps3
  go_wp2_with fail
  refine HX.out.mono ?_
  rintro e w1 ⟨rfl, b1⟩
  generalize w.alloc (.cells #[.int .i64 k, .int .i64 n, .string s, .slice ao a.length cap] 24) = W at *
  replace c0 := cell_later b1 c0
  replace c1 := cell_later b1 c1
  replace c2 := cell_later b1 c2
  replace c3 := cell_later b1 c3
  have HE1 := hide (HE.out.later b1 (Nat.le_refl _))
  have HG1 := hide (HG.out.later b1 (Nat.le_refl _))
  have hs2 : w.heap.size < w1.heap.size := by have := b1.size; omega
  have HB2 := hide (HB1.out.trans (b1.mono (by omega)))
  obtain ⟨lt, hlt⟩ : ∃ lt, decide (wtE (.mk k n s a) ≤ 400) = lt := ⟨_, rfl⟩
  have HL := hide (LightExpr_any d k n s a ao cap w1 HE1.out)
  rw [hlt] at HL
  clear HX HE HG HB1 b1 hlt hs1
  go_wp2_with fail
  refine HL.out.mono ?_
  rintro e w2 ⟨rfl, b2⟩
  clear HL
  replace c0 := cell_later b2 c0
  replace c1 := cell_later b2 c1
  replace c2 := cell_later b2 c2
  replace c3 := cell_later b2 c3
  have HE2 := hide (HE1.out.later b2 (Nat.le_refl _))
  have HG2 := hide (HG1.out.later b2 (Nat.le_refl _))
  have hs3 : w.heap.size < w2.heap.size := by have := b2.size; omega
  have HB3 := hide (HB2.out.trans (b2.mono HB2.out.size))
  clear HE1 HG1 HB2 b2 hs2
  unfold maxLen at hls
  cases lt
  · go_wp2
    go_ret
    exact ⟨rfl, HB3.out⟩
  by_cases hl3 : 300 < line.size
  · have e1 : decide ((300 : Int) < (line.size : Int)) = true := by simp; omega
    go_wp2
    go_ret
    exact ⟨rfl, HB3.out⟩
  have e1 : decide ((300 : Int) < (line.size : Int)) = false := by simp; omega
  have HWS := hide (words_line (line := line) (by omega))
  have HF := hide (ExprFault_any d k n s a ao cap w2 text each HE2.out hsm)
  obtain ⟨f, hf⟩ : ∃ f, faultE (.mk k n s a) text each = f := ⟨_, rfl⟩
  have hfn : 0 ≤ f := by rw [← hf]; exact faultE_nn _ _ _
  rw [hf] at HF
  have HFE := hide hf
  clear hf hsm
  go_wp2_with fail
  refine HF.out.mono ?_
  rintro e w3 ⟨rfl, b3⟩
  clear HF
  replace c0 := cell_later b3 c0
  replace c1 := cell_later b3 c1
  replace c2 := cell_later b3 c2
  replace c3 := cell_later b3 c3
  have HE3 := hide (HE2.out.later b3 (Nat.le_refl _))
  have HG3 := hide (HG2.out.later b3 (Nat.le_refl _))
  have hs4 : w.heap.size < w3.heap.size := by have := b3.size; omega
  have HB4 := hide (HB3.out.trans (b3.mono HB3.out.size))
  clear HE2 HG2 HB3 b3 hs3
  have HWL := hide (show (wordsB line).length ≤ 1000 by have := HWS.out.1; omega)
  have HWL2 := hide (show (wordsB line).length ≤ 2000 by have := HWS.out.1; omega)
  have HLN := hide (show line.size ≤ 1000 by omega)
  have HLM := hide (show line.size ≤ 1000000 by omega)
  have hcast : Below w3.heap.size w3 w3 := Below.refl _ _
  go_upto_region 5 with (fail)
  refine ES5 (LS := fun w' a5 => Sl 1 encS w' a5 (wordsB line)) (wl := (wordsB line).length) (tb := decide (1 ≤ k ∧ k ≤ 6)) (ev := errV f) c0 c1 c2 c3 ?_ ?_ ?_ ?_ ?_ ?_ ?_ rfl _ _ _ _ _ _ _ _ _ _ _ _ _ _ _ _ _ _ _ _ _ _ _ _ _ _ _ _ _ _ _ _ _ _ _ _ _ _ _ _ _ _ _ _ _ _ _ _ _ _ _ _ _ _ _ _ _ _ _ _ _ _ _ _ _ _ _ _ _ _ _ _ _ _ _ _ _ _ _ _ _ _ _ _ _ _ _ _ _ _ _ _ _ _ _ _ _ _ _ _ _ _ _ _ _ _ _ _ _ _ _ _ ?_
  · intro w' bw
    have := Check_any d k n s a ao cap w' text each (HE3.out.later bw (Nat.le_refl _))
    rw [HFE.out] at this
    exact this
  · intro w'
    have := same_any f f w' hfn
    simpa using this
  · intro w' bw
    refine (Words_any line w' (HG3.out.later bw (Nat.le_refl _)) HLM.out).mono ?_
    rintro e w5 ⟨v, rfl, o5, b5⟩
    obtain ⟨⟨a5, p5, rfl⟩, _⟩ := id o5
    exact ⟨a5, p5, rfl, o5.sl encS_len, b5⟩
  · intro w' bw
    refine (RefWords_any line w' HLM.out).mono ?_
    rintro e w5 ⟨v, rfl, o5, b5⟩
    obtain ⟨⟨a5, p5, rfl⟩, _⟩ := id o5
    exact ⟨a5, p5, rfl, o5.sl encS_len, b5⟩
  · intro w' w'' a5 h b
    exact h.later b (Nat.le_refl _)
  · intro w' a5 a6 p5 p6 h h'
    exact SameTexts_refl a5 a6 p5 p6 (wordsB line) w' (by have := HWL.out; omega) h h'
  · intro w'
    exact Texts_any k n s ao a.length cap w'
  intro v33 v34 v35 v36 v37 v38 v39 v40 v41 v42 v43 v44 v45 v46 v47 v48 v49 v50 v51 v52 v53 v54 v55 v56 v57 v58 v59 w8 b8
  dsimp only
  replace c0 := cell_later b8 c0
  replace c1 := cell_later b8 c1
  replace c2 := cell_later b8 c2
  replace c3 := cell_later b8 c3
  have HE8 := hide (HE3.out.later b8 (Nat.le_refl _))
  have HG8 := hide (HG3.out.later b8 (Nat.le_refl _))
  have hs8 : w.heap.size < w8.heap.size := by have := b8.size; omega
  have HB8 := hide (HB4.out.trans (b8.mono HB4.out.size))
  clear HE3 HG3 HB4 b8 hs4 hcast
  have HO := hide (Of_any line w8 HG8.out HLM.out)
  go_wp2_with fail
  refine HO.out.mono ?_
  rintro e w9 ⟨v9, rfl, o9, b9⟩
  clear HO
  obtain ⟨⟨a9, c9, rfl⟩, _⟩ := id o9
  replace c0 := cell_later b9 c0
  replace c1 := cell_later b9 c1
  replace c2 := cell_later b9 c2
  replace c3 := cell_later b9 c3
  have hs9 : w8.heap.size ≤ w9.heap.size := b9.size
  have HRB : Hid (Bk (w9.alloc (.cells #[.string line, .string ⟨#[]⟩, .slice a9 (wordsB line).length c9] 36)) w9.heap.size [.string line, .string ⟨#[]⟩, .slice a9 (wordsB line).length c9]) := Bk.new rfl
  have hba : Below w9.heap.size w9 (w9.alloc (.cells #[.string line, .string ⟨#[]⟩, .slice a9 (wordsB line).length c9] 36)) := (Below.refl _ _).alloc (Nat.le_refl _) _
  have HO9 := hide (o9.later hba)
  replace c0 := cell_later hba c0
  replace c1 := cell_later hba c1
  replace c2 := cell_later hba c2
  replace c3 := cell_later hba c3
  have HBA := hide (b9.trans (hba.mono b9.size))
  have hsa : w8.heap.size ≤ (w9.alloc (.cells #[.string line, .string ⟨#[]⟩, .slice a9 (wordsB line).length c9] 36)).heap.size := HBA.out.size
  have HW := hide (RefWords_any line (w9.alloc (.cells #[.string line, .string ⟨#[]⟩, .slice a9 (wordsB line).length c9] 36)) HLM.out)
  have ha9 : ∀ b : Nat, (Value.slice a9 (wordsB line).length c9).ownBlock = some b → b < w9.heap.size := fun b hb => (o9.lt b hb).2
  have HA9 := hide ha9
  clear o9 b9 hba ha9
  go_wp2_with fail
  refine HW.out.mono ?_
  rintro e w10 ⟨v10, rfl, o10, b10⟩
  clear HW
  obtain ⟨⟨a10, c10, rfl⟩, _⟩ := id o10
  replace c0 := cell_later b10 c0
  replace c1 := cell_later b10 c1
  replace c2 := cell_later b10 c2
  replace c3 := cell_later b10 c3
  have HRB10 := hide (HRB.out.later b10)
  have HO10 := hide (HO9.out.later b10)
  have HB10 := hide (HBA.out.trans (b10.mono hsa))
  have hs10 : w9.heap.size < w10.heap.size := HRB10.out.lt
  have HS10 := hide (o10.sl encS_len)
  have r0 := HRB10.out.get (j := 0) rfl
  have r1 := HRB10.out.get (j := 1) rfl
  have r2 := HRB10.out.get (j := 2) rfl
  clear HRB HO9 HBA b10 hsa o10
  have HST := hide (SameTexts_refl a9 a10 c9 c10 (wordsB line) w10 (by have := HWL.out; omega) (HO10.out.sl encS_len) HS10.out)
  have hbq := beqq line
  go_wp2_with fail
  refine HST.out.mono ?_
  rintro e w11 ⟨rfl, b11⟩
  clear HST
  have q0 := cell_later b11 c0
  have q1 := cell_later b11 c1
  have q2 := cell_later b11 c2
  have q3 := cell_later b11 c3
  have HRB11 := hide (HRB10.out.later b11)
  have HO11 := hide (HO10.out.later b11)
  have HB11 := hide (HB10.out.trans (b11.mono HB10.out.size))
  have hs11 : w9.heap.size < w11.heap.size := HRB11.out.lt
  have HS11 := hide (HS10.out.later b11 (Nat.le_refl _))
  clear c0 c1 c2 c3 r0 r1 r2 HRB10 HO10 HB10 HS10 b11 hs10 hbq
  have HE11 := hide (HE8.out.later HB11.out (Nat.le_refl _))
  by_cases hlw : 0 < (wordsB line).length
  · rcases Bool.eq_false_or_eq_true each with he | he
    · have e3 : decide ((0 : Int) < ((wordsB line).length : Int)) = true := by simp; omega
      obtain ⟨m, hm⟩ : ∃ m : Nat, which % 1024 = m := ⟨(which % 1024).toNat, by omega⟩
      have hand : bits .and .i64 which 1023 = (m : Int) := by rw [i64_and1023, hm]
      obtain ⟨j, hj⟩ : ∃ j : Nat, m % (wordsB line).length = j := ⟨_, rfl⟩
      have hjl : j < (wordsB line).length := by rw [← hj]; exact Nat.mod_lt _ hlw
      have hrem : (m : Int).tmod ((wordsB line).length : Int) = (j : Int) := by rw [← Int.ofNat_tmod, hj]
      have hz : ¬ (wordsB line).length = 0 := by omega
      obtain ⟨b, off, x, rfl, hbw, hlk, u0⟩ := HS11.out.str hjl
      have HXS := hide (HWS.out.2 x (List.mem_of_getElem? hlk))
      have z1 := HRB11.out.fz 1
      have r1 := HRB11.out.get (j := 1) rfl
      have f1 : (0 : Int) ≤ (j : Int) ∧ (j : Int) < ((wordsB line).length : Int) := by omega
      obtain ⟨f1, f2⟩ := f1
      have HBZ0 := hide (show Below w8.heap.size w8 (w11.setCell ⟨w9.heap.size, 1, none⟩ (.string x)) from HB11.out.setCell hs9 _)
      have HRBZ := hide (HRB11.out.set (k := 1) (u := .string ⟨#[]⟩) (.string x) rfl)
      have HOZ := hide (HO11.out.setOther (a := ⟨w9.heap.size, 1, none⟩) (by intro e; have := HA9.out _ e; simp at this) (.string x))
      have hne : ∀ i : Nat, (⟨w9.heap.size, 1, none⟩ : Addr) ≠ ⟨w.heap.size, i, none⟩ := by
        intro i e
        have := congrArg Addr.block e
        simp at this
        omega
      have HNE := hide hne
      clear hm hj hlk hz hne
      go_upto_region 13 with (fail)
      replace q0 := cellSetO (v := .string x) q0 (HNE.out 0)
      replace q1 := cellSetO (v := .string x) q1 (HNE.out 1)
      replace q2 := cellSetO (v := .string x) q2 (HNE.out 2)
      replace q3 := cellSetO (v := .string x) q3 (HNE.out 3)
      have r0 := HRBZ.out.get (j := 0) rfl
      replace r1 := HRBZ.out.get (j := 1) rfl
      have r2 := HRBZ.out.get (j := 2) rfl
      have HEZ := hide (HE8.out.later HBZ0.out (Nat.le_refl _))
      have HSZ := hide (HOZ.out.sl encS_len)
      have HBZ := hide (HB8.out.trans (HBZ0.out.mono HB8.out.size))
      have HBS : Hid (∀ e : ExprV, shE e true each = true → e.nodes ≤ 1000 → (strE e line x (wordsB line)).size ≤ 1000000) := str_small HLN.out HXS.out HWS.out.2
      clear HRB11 HO11 HB11 HE8 HE11 HS11 hlw HBZ0 HRBZ HOZ HNE HXS u0 hbw f1 f2 z1
      generalize w11.setCell ⟨w9.heap.size, 1, none⟩ (.string x) = WZ at *
      obtain ⟨it, rfl⟩ : ∃ it, it = x := ⟨_, rfl⟩
      by_cases hf0 : 0 < f
      · have hfd : decide ((0 : Int) < f) = true := by simp; omega
        go_wp2
        go_ret
        exact ⟨rfl, HBZ.out⟩
      · have hfd : decide ((0 : Int) < f) = false := by simp; omega
        have hsh : shE (.mk k n s a) text each = true ∧ (ExprV.mk k n s a).nodes ≤ 1000 := by
          have := HFE.out
          have hnn := faultE_nn (.mk k n s a) text each
          unfold faultE at this
          split at this
          · omega
          next hc =>
            split at this
            next hs => exact ⟨hs, by omega⟩
            · omega
        have HSH := hide hsh
        clear hsh
        cases text
        · have hI := hide fun w' (bw : Below WZ.heap.size WZ w') => Int_any line it a9 c9 (wordsB line) each HWL.out HBS d k n s a ao cap w' (HEZ.out.later bw (Nat.le_refl _)) HSH.out.1 HSH.out.2 (HSZ.out.later bw (Nat.le_refl _))
          have hR := hide fun w' (bw : Below WZ.heap.size WZ w') => RefInt_any line it each HLN.out HWL2.out HBS d k n s a ao cap w' (HEZ.out.later bw (Nat.le_refl _)) HSH.out.1 HSH.out.2
          generalize hTT : intE (.mk k n s a) line it (wordsB line) = T at *
          generalize hWL : (wordsB line).length = wl at *
          clear hTT hWL
          go_upto_region 17 with (fail)
          have hwf : Below WZ.heap.size WZ WZ.drew := (Below.refl _ _).drew
          go_region_held3 (fun w' => Below WZ.heap.size WZ w' ∧ w'.cell? ⟨w.heap.size, 0, none⟩ = some (.int .i64 k) ∧ w'.cell? ⟨w.heap.size, 1, none⟩ = some (.int .i64 n) ∧ w'.cell? ⟨w.heap.size, 2, none⟩ = some (.string s) ∧ w'.cell? ⟨w.heap.size, 3, none⟩ = some (.slice ao a.length cap) ∧ w'.cell? ⟨w9.heap.size, 0, none⟩ = some (.string line) ∧ w'.cell? ⟨w9.heap.size, 1, none⟩ = some (.string it) ∧ w'.cell? ⟨w9.heap.size, 2, none⟩ = some (.slice a9 wl c9))
            (first
              | exact ⟨hwf, q0, q1, q2, q3, r0, r1, r2⟩
              | (have h := (by assumption : Below WZ.heap.size WZ _ ∧ _ ∧ _); exact ⟨h.1.trans (bb.mono h.1.size), cell_later bb h.2.1, cell_later bb h.2.2.1, cell_later bb h.2.2.2.1, cell_later bb h.2.2.2.2.1, cell_later bb h.2.2.2.2.2.1, cell_later bb h.2.2.2.2.2.2.1, cell_later bb h.2.2.2.2.2.2.2⟩)
              | (have h := (by assumption : Below WZ.heap.size WZ _ ∧ _ ∧ _); exact ⟨h.1.trans (ba.mono h.1.size), cell_later ba h.2.1, cell_later ba h.2.2.1, cell_later ba h.2.2.2.1, cell_later ba h.2.2.2.2.1, cell_later ba h.2.2.2.2.2.1, cell_later ba h.2.2.2.2.2.2.1, cell_later ba h.2.2.2.2.2.2.2⟩)
              | go_keep)
            (first
              | (go_at_call 24; have h := (by assumption : Below WZ.heap.size WZ _ ∧ _ ∧ _); refine (hI.out _ h.1).mono ?_; clear h; rintro e wa ⟨rfl, ba⟩)
              | (go_at_call 25; have h := (by assumption : Below WZ.heap.size WZ _ ∧ _ ∧ _); refine (hR.out _ h.1).mono ?_; clear h; rintro e wb ⟨rfl, bb⟩))
          all_goals
            have h := (by assumption : Below WZ.heap.size WZ _ ∧ _ ∧ _)
            have HBE := hide (HBZ.out.trans (h.1.mono HBZ.out.size))
            clear h
            go_wp2
            go_ret
            exact ⟨ret_b (by simp), HBE.out⟩
        · have hI := hide fun w' (bw : Below WZ.heap.size WZ w') => Str_any line it a9 c9 (wordsB line) each HWL.out HBS d k n s a ao cap w' (HEZ.out.later bw (Nat.le_refl _)) HSH.out.1 HSH.out.2 (HSZ.out.later bw (Nat.le_refl _))
          have hR := hide fun w' (bw : Below WZ.heap.size WZ w') => RefStr_any line it each HLN.out HWL2.out HBS d k n s a ao cap w' (HEZ.out.later bw (Nat.le_refl _)) HSH.out.1 HSH.out.2
          generalize hTT : strE (.mk k n s a) line it (wordsB line) = T at *
          generalize hWL : (wordsB line).length = wl at *
          clear hTT hWL
          go_upto_region 16 with (fail)
          have hwf : Below WZ.heap.size WZ WZ.drew := (Below.refl _ _).drew
          go_region_held3 (fun w' => Below WZ.heap.size WZ w' ∧ w'.cell? ⟨w.heap.size, 0, none⟩ = some (.int .i64 k) ∧ w'.cell? ⟨w.heap.size, 1, none⟩ = some (.int .i64 n) ∧ w'.cell? ⟨w.heap.size, 2, none⟩ = some (.string s) ∧ w'.cell? ⟨w.heap.size, 3, none⟩ = some (.slice ao a.length cap) ∧ w'.cell? ⟨w9.heap.size, 0, none⟩ = some (.string line) ∧ w'.cell? ⟨w9.heap.size, 1, none⟩ = some (.string it) ∧ w'.cell? ⟨w9.heap.size, 2, none⟩ = some (.slice a9 wl c9))
            (first
              | exact ⟨hwf, q0, q1, q2, q3, r0, r1, r2⟩
              | (have h := (by assumption : Below WZ.heap.size WZ _ ∧ _ ∧ _); exact ⟨h.1.trans (bb.mono h.1.size), cell_later bb h.2.1, cell_later bb h.2.2.1, cell_later bb h.2.2.2.1, cell_later bb h.2.2.2.2.1, cell_later bb h.2.2.2.2.2.1, cell_later bb h.2.2.2.2.2.2.1, cell_later bb h.2.2.2.2.2.2.2⟩)
              | (have h := (by assumption : Below WZ.heap.size WZ _ ∧ _ ∧ _); exact ⟨h.1.trans (ba.mono h.1.size), cell_later ba h.2.1, cell_later ba h.2.2.1, cell_later ba h.2.2.2.1, cell_later ba h.2.2.2.2.1, cell_later ba h.2.2.2.2.2.1, cell_later ba h.2.2.2.2.2.2.1, cell_later ba h.2.2.2.2.2.2.2⟩)
              | go_keep)
            (first
              | (go_at_call 22; have h := (by assumption : Below WZ.heap.size WZ _ ∧ _ ∧ _); refine (hI.out _ h.1).mono ?_; clear h; rintro e wa ⟨rfl, ba⟩)
              | (go_at_call 23; have h := (by assumption : Below WZ.heap.size WZ _ ∧ _ ∧ _); refine (hR.out _ h.1).mono ?_; clear h; rintro e wb ⟨rfl, bb⟩))
          all_goals
            have h := (by assumption : Below WZ.heap.size WZ _ ∧ _ ∧ _)
            have HBE := hide (HBZ.out.trans (h.1.mono HBZ.out.size))
            clear h
            go_wp2
            go_ret
            exact ⟨ret_b (by simp), HBE.out⟩
    ·
      first
        | have e3 : decide ((0 : Int) < ((wordsB line).length : Int)) = true := decide_eq_true (by omega)
        | have e3 : decide ((0 : Int) < ((wordsB line).length : Int)) = false := decide_eq_false (by omega)
      have r0 := HRB11.out.get (j := 0) rfl
      have r1 := HRB11.out.get (j := 1) rfl
      have r2 := HRB11.out.get (j := 2) rfl
      have HBS : Hid (∀ e : ExprV, shE e true each = true → e.nodes ≤ 1000 → (strE e line ⟨#[]⟩ (wordsB line)).size ≤ 1000000) := str_small HLN.out (by decide) HWS.out.2
      have HBZ := hide (HB8.out.trans (HB11.out.mono HB8.out.size))
      have HEZ := HE11
      have HSZ := hide (HO11.out.sl encS_len)
      obtain ⟨WZ, rfl⟩ : ∃ wo, wo = w11 := ⟨_, rfl⟩
      obtain ⟨it, hit⟩ : ∃ it, it = (⟨#[]⟩ : ByteArray) := ⟨_, rfl⟩
      clear HRB11 HO11 HB11 HE8 HE11 HS11
      rw [← hit] at HBS r1
      clear hit
      by_cases hf0 : 0 < f
      · have hfd : decide ((0 : Int) < f) = true := by simp; omega
        go_wp2
        go_ret
        exact ⟨rfl, HBZ.out⟩
      · have hfd : decide ((0 : Int) < f) = false := by simp; omega
        have hsh : shE (.mk k n s a) text each = true ∧ (ExprV.mk k n s a).nodes ≤ 1000 := by
          have := HFE.out
          have hnn := faultE_nn (.mk k n s a) text each
          unfold faultE at this
          split at this
          · omega
          next hc =>
            split at this
            next hs => exact ⟨hs, by omega⟩
            · omega
        have HSH := hide hsh
        clear hsh
        cases text
        · have hI := hide fun w' (bw : Below WZ.heap.size WZ w') => Int_any line it a9 c9 (wordsB line) each HWL.out HBS d k n s a ao cap w' (HEZ.out.later bw (Nat.le_refl _)) HSH.out.1 HSH.out.2 (HSZ.out.later bw (Nat.le_refl _))
          have hR := hide fun w' (bw : Below WZ.heap.size WZ w') => RefInt_any line it each HLN.out HWL2.out HBS d k n s a ao cap w' (HEZ.out.later bw (Nat.le_refl _)) HSH.out.1 HSH.out.2
          generalize hTT : intE (.mk k n s a) line it (wordsB line) = T at *
          generalize hWL : (wordsB line).length = wl at *
          clear hTT hWL
          go_upto_region 17 with (fail)
          have hwf : Below WZ.heap.size WZ WZ.drew := (Below.refl _ _).drew
          go_region_held3 (fun w' => Below WZ.heap.size WZ w' ∧ w'.cell? ⟨w.heap.size, 0, none⟩ = some (.int .i64 k) ∧ w'.cell? ⟨w.heap.size, 1, none⟩ = some (.int .i64 n) ∧ w'.cell? ⟨w.heap.size, 2, none⟩ = some (.string s) ∧ w'.cell? ⟨w.heap.size, 3, none⟩ = some (.slice ao a.length cap) ∧ w'.cell? ⟨w9.heap.size, 0, none⟩ = some (.string line) ∧ w'.cell? ⟨w9.heap.size, 1, none⟩ = some (.string it) ∧ w'.cell? ⟨w9.heap.size, 2, none⟩ = some (.slice a9 wl c9))
            (first
              | exact ⟨hwf, q0, q1, q2, q3, r0, r1, r2⟩
              | (have h := (by assumption : Below WZ.heap.size WZ _ ∧ _ ∧ _); exact ⟨h.1.trans (bb.mono h.1.size), cell_later bb h.2.1, cell_later bb h.2.2.1, cell_later bb h.2.2.2.1, cell_later bb h.2.2.2.2.1, cell_later bb h.2.2.2.2.2.1, cell_later bb h.2.2.2.2.2.2.1, cell_later bb h.2.2.2.2.2.2.2⟩)
              | (have h := (by assumption : Below WZ.heap.size WZ _ ∧ _ ∧ _); exact ⟨h.1.trans (ba.mono h.1.size), cell_later ba h.2.1, cell_later ba h.2.2.1, cell_later ba h.2.2.2.1, cell_later ba h.2.2.2.2.1, cell_later ba h.2.2.2.2.2.1, cell_later ba h.2.2.2.2.2.2.1, cell_later ba h.2.2.2.2.2.2.2⟩)
              | go_keep)
            (first
              | (go_at_call 24; have h := (by assumption : Below WZ.heap.size WZ _ ∧ _ ∧ _); refine (hI.out _ h.1).mono ?_; clear h; rintro e wa ⟨rfl, ba⟩)
              | (go_at_call 25; have h := (by assumption : Below WZ.heap.size WZ _ ∧ _ ∧ _); refine (hR.out _ h.1).mono ?_; clear h; rintro e wb ⟨rfl, bb⟩))
          all_goals
            have h := (by assumption : Below WZ.heap.size WZ _ ∧ _ ∧ _)
            have HBE := hide (HBZ.out.trans (h.1.mono HBZ.out.size))
            clear h
            go_wp2
            go_ret
            exact ⟨ret_b (by simp), HBE.out⟩
        · have hI := hide fun w' (bw : Below WZ.heap.size WZ w') => Str_any line it a9 c9 (wordsB line) each HWL.out HBS d k n s a ao cap w' (HEZ.out.later bw (Nat.le_refl _)) HSH.out.1 HSH.out.2 (HSZ.out.later bw (Nat.le_refl _))
          have hR := hide fun w' (bw : Below WZ.heap.size WZ w') => RefStr_any line it each HLN.out HWL2.out HBS d k n s a ao cap w' (HEZ.out.later bw (Nat.le_refl _)) HSH.out.1 HSH.out.2
          generalize hTT : strE (.mk k n s a) line it (wordsB line) = T at *
          generalize hWL : (wordsB line).length = wl at *
          clear hTT hWL
          go_upto_region 16 with (fail)
          have hwf : Below WZ.heap.size WZ WZ.drew := (Below.refl _ _).drew
          go_region_held3 (fun w' => Below WZ.heap.size WZ w' ∧ w'.cell? ⟨w.heap.size, 0, none⟩ = some (.int .i64 k) ∧ w'.cell? ⟨w.heap.size, 1, none⟩ = some (.int .i64 n) ∧ w'.cell? ⟨w.heap.size, 2, none⟩ = some (.string s) ∧ w'.cell? ⟨w.heap.size, 3, none⟩ = some (.slice ao a.length cap) ∧ w'.cell? ⟨w9.heap.size, 0, none⟩ = some (.string line) ∧ w'.cell? ⟨w9.heap.size, 1, none⟩ = some (.string it) ∧ w'.cell? ⟨w9.heap.size, 2, none⟩ = some (.slice a9 wl c9))
            (first
              | exact ⟨hwf, q0, q1, q2, q3, r0, r1, r2⟩
              | (have h := (by assumption : Below WZ.heap.size WZ _ ∧ _ ∧ _); exact ⟨h.1.trans (bb.mono h.1.size), cell_later bb h.2.1, cell_later bb h.2.2.1, cell_later bb h.2.2.2.1, cell_later bb h.2.2.2.2.1, cell_later bb h.2.2.2.2.2.1, cell_later bb h.2.2.2.2.2.2.1, cell_later bb h.2.2.2.2.2.2.2⟩)
              | (have h := (by assumption : Below WZ.heap.size WZ _ ∧ _ ∧ _); exact ⟨h.1.trans (ba.mono h.1.size), cell_later ba h.2.1, cell_later ba h.2.2.1, cell_later ba h.2.2.2.1, cell_later ba h.2.2.2.2.1, cell_later ba h.2.2.2.2.2.1, cell_later ba h.2.2.2.2.2.2.1, cell_later ba h.2.2.2.2.2.2.2⟩)
              | go_keep)
            (first
              | (go_at_call 22; have h := (by assumption : Below WZ.heap.size WZ _ ∧ _ ∧ _); refine (hI.out _ h.1).mono ?_; clear h; rintro e wa ⟨rfl, ba⟩)
              | (go_at_call 23; have h := (by assumption : Below WZ.heap.size WZ _ ∧ _ ∧ _); refine (hR.out _ h.1).mono ?_; clear h; rintro e wb ⟨rfl, bb⟩))
          all_goals
            have h := (by assumption : Below WZ.heap.size WZ _ ∧ _ ∧ _)
            have HBE := hide (HBZ.out.trans (h.1.mono HBZ.out.size))
            clear h
            go_wp2
            go_ret
            exact ⟨ret_b (by simp), HBE.out⟩
  ·
    first
      | have e3 : decide ((0 : Int) < ((wordsB line).length : Int)) = true := decide_eq_true (by omega)
      | have e3 : decide ((0 : Int) < ((wordsB line).length : Int)) = false := decide_eq_false (by omega)
    have r0 := HRB11.out.get (j := 0) rfl
    have r1 := HRB11.out.get (j := 1) rfl
    have r2 := HRB11.out.get (j := 2) rfl
    have HBS : Hid (∀ e : ExprV, shE e true each = true → e.nodes ≤ 1000 → (strE e line ⟨#[]⟩ (wordsB line)).size ≤ 1000000) := str_small HLN.out (by decide) HWS.out.2
    have HBZ := hide (HB8.out.trans (HB11.out.mono HB8.out.size))
    have HEZ := HE11
    have HSZ := hide (HO11.out.sl encS_len)
    obtain ⟨WZ, rfl⟩ : ∃ wo, wo = w11 := ⟨_, rfl⟩
    obtain ⟨it, hit⟩ : ∃ it, it = (⟨#[]⟩ : ByteArray) := ⟨_, rfl⟩
    clear HRB11 HO11 HB11 HE8 HE11 HS11
    rw [← hit] at HBS r1
    clear hit
    by_cases hf0 : 0 < f
    · have hfd : decide ((0 : Int) < f) = true := by simp; omega
      go_wp2
      go_ret
      exact ⟨rfl, HBZ.out⟩
    · have hfd : decide ((0 : Int) < f) = false := by simp; omega
      have hsh : shE (.mk k n s a) text each = true ∧ (ExprV.mk k n s a).nodes ≤ 1000 := by
        have := HFE.out
        have hnn := faultE_nn (.mk k n s a) text each
        unfold faultE at this
        split at this
        · omega
        next hc =>
          split at this
          next hs => exact ⟨hs, by omega⟩
          · omega
      have HSH := hide hsh
      clear hsh
      cases text
      · have hI := hide fun w' (bw : Below WZ.heap.size WZ w') => Int_any line it a9 c9 (wordsB line) each HWL.out HBS d k n s a ao cap w' (HEZ.out.later bw (Nat.le_refl _)) HSH.out.1 HSH.out.2 (HSZ.out.later bw (Nat.le_refl _))
        have hR := hide fun w' (bw : Below WZ.heap.size WZ w') => RefInt_any line it each HLN.out HWL2.out HBS d k n s a ao cap w' (HEZ.out.later bw (Nat.le_refl _)) HSH.out.1 HSH.out.2
        generalize hTT : intE (.mk k n s a) line it (wordsB line) = T at *
        generalize hWL : (wordsB line).length = wl at *
        clear hTT hWL
        go_upto_region 17 with (fail)
        have hwf : Below WZ.heap.size WZ WZ.drew := (Below.refl _ _).drew
        go_region_held3 (fun w' => Below WZ.heap.size WZ w' ∧ w'.cell? ⟨w.heap.size, 0, none⟩ = some (.int .i64 k) ∧ w'.cell? ⟨w.heap.size, 1, none⟩ = some (.int .i64 n) ∧ w'.cell? ⟨w.heap.size, 2, none⟩ = some (.string s) ∧ w'.cell? ⟨w.heap.size, 3, none⟩ = some (.slice ao a.length cap) ∧ w'.cell? ⟨w9.heap.size, 0, none⟩ = some (.string line) ∧ w'.cell? ⟨w9.heap.size, 1, none⟩ = some (.string it) ∧ w'.cell? ⟨w9.heap.size, 2, none⟩ = some (.slice a9 wl c9))
          (first
            | exact ⟨hwf, q0, q1, q2, q3, r0, r1, r2⟩
            | (have h := (by assumption : Below WZ.heap.size WZ _ ∧ _ ∧ _); exact ⟨h.1.trans (bb.mono h.1.size), cell_later bb h.2.1, cell_later bb h.2.2.1, cell_later bb h.2.2.2.1, cell_later bb h.2.2.2.2.1, cell_later bb h.2.2.2.2.2.1, cell_later bb h.2.2.2.2.2.2.1, cell_later bb h.2.2.2.2.2.2.2⟩)
            | (have h := (by assumption : Below WZ.heap.size WZ _ ∧ _ ∧ _); exact ⟨h.1.trans (ba.mono h.1.size), cell_later ba h.2.1, cell_later ba h.2.2.1, cell_later ba h.2.2.2.1, cell_later ba h.2.2.2.2.1, cell_later ba h.2.2.2.2.2.1, cell_later ba h.2.2.2.2.2.2.1, cell_later ba h.2.2.2.2.2.2.2⟩)
            | go_keep)
          (first
            | (go_at_call 24; have h := (by assumption : Below WZ.heap.size WZ _ ∧ _ ∧ _); refine (hI.out _ h.1).mono ?_; clear h; rintro e wa ⟨rfl, ba⟩)
            | (go_at_call 25; have h := (by assumption : Below WZ.heap.size WZ _ ∧ _ ∧ _); refine (hR.out _ h.1).mono ?_; clear h; rintro e wb ⟨rfl, bb⟩))
        all_goals
          have h := (by assumption : Below WZ.heap.size WZ _ ∧ _ ∧ _)
          have HBE := hide (HBZ.out.trans (h.1.mono HBZ.out.size))
          clear h
          go_wp2
          go_ret
          exact ⟨ret_b (by simp), HBE.out⟩
      · have hI := hide fun w' (bw : Below WZ.heap.size WZ w') => Str_any line it a9 c9 (wordsB line) each HWL.out HBS d k n s a ao cap w' (HEZ.out.later bw (Nat.le_refl _)) HSH.out.1 HSH.out.2 (HSZ.out.later bw (Nat.le_refl _))
        have hR := hide fun w' (bw : Below WZ.heap.size WZ w') => RefStr_any line it each HLN.out HWL2.out HBS d k n s a ao cap w' (HEZ.out.later bw (Nat.le_refl _)) HSH.out.1 HSH.out.2
        generalize hTT : strE (.mk k n s a) line it (wordsB line) = T at *
        generalize hWL : (wordsB line).length = wl at *
        clear hTT hWL
        go_upto_region 16 with (fail)
        have hwf : Below WZ.heap.size WZ WZ.drew := (Below.refl _ _).drew
        go_region_held3 (fun w' => Below WZ.heap.size WZ w' ∧ w'.cell? ⟨w.heap.size, 0, none⟩ = some (.int .i64 k) ∧ w'.cell? ⟨w.heap.size, 1, none⟩ = some (.int .i64 n) ∧ w'.cell? ⟨w.heap.size, 2, none⟩ = some (.string s) ∧ w'.cell? ⟨w.heap.size, 3, none⟩ = some (.slice ao a.length cap) ∧ w'.cell? ⟨w9.heap.size, 0, none⟩ = some (.string line) ∧ w'.cell? ⟨w9.heap.size, 1, none⟩ = some (.string it) ∧ w'.cell? ⟨w9.heap.size, 2, none⟩ = some (.slice a9 wl c9))
          (first
            | exact ⟨hwf, q0, q1, q2, q3, r0, r1, r2⟩
            | (have h := (by assumption : Below WZ.heap.size WZ _ ∧ _ ∧ _); exact ⟨h.1.trans (bb.mono h.1.size), cell_later bb h.2.1, cell_later bb h.2.2.1, cell_later bb h.2.2.2.1, cell_later bb h.2.2.2.2.1, cell_later bb h.2.2.2.2.2.1, cell_later bb h.2.2.2.2.2.2.1, cell_later bb h.2.2.2.2.2.2.2⟩)
            | (have h := (by assumption : Below WZ.heap.size WZ _ ∧ _ ∧ _); exact ⟨h.1.trans (ba.mono h.1.size), cell_later ba h.2.1, cell_later ba h.2.2.1, cell_later ba h.2.2.2.1, cell_later ba h.2.2.2.2.1, cell_later ba h.2.2.2.2.2.1, cell_later ba h.2.2.2.2.2.2.1, cell_later ba h.2.2.2.2.2.2.2⟩)
            | go_keep)
          (first
            | (go_at_call 22; have h := (by assumption : Below WZ.heap.size WZ _ ∧ _ ∧ _); refine (hI.out _ h.1).mono ?_; clear h; rintro e wa ⟨rfl, ba⟩)
            | (go_at_call 23; have h := (by assumption : Below WZ.heap.size WZ _ ∧ _ ∧ _); refine (hR.out _ h.1).mono ?_; clear h; rintro e wb ⟨rfl, bb⟩))
        all_goals
          have h := (by assumption : Below WZ.heap.size WZ _ ∧ _ ∧ _)
          have HBE := hide (HBZ.out.trans (h.1.mono HBZ.out.size))
          clear h
          go_wp2
          go_ret
          exact ⟨ret_b (by simp), HBE.out⟩
end Go.Proofs.YtkodbldfoldbjaaDoor
