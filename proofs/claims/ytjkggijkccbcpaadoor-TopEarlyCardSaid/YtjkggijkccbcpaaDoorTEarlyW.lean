/- TopEarly: the law's walk. -/
import Derived.Test.YtjkggijkccbcpaaDoorFolder
import Derived.Test.YtjkggijkccbcpaaDoorFRun
import Derived.Test.YtjkggijkccbcpaaDoorEDeal
set_option linter.unusedSimpArgs false
set_option linter.unusedVariables false
namespace Go.Proofs.YtjkggijkccbcpaaDoor
open Go.RowKit

theorem infoRows2 : (Tryd.prog.info? 41).map (fun i => (i.zero, i.size, i.bytes)) = some (some (.slice none 0 0), 1, 24) := by kernel_rfl
theorem i64_and15 (n : Int) : bits .and .i64 n 15 = n % 16 := by
  have h15 : (BitVec.ofInt 64 15).toNat = 2 ^ 4 - 1 := by decide
  have key : (BitVec.ofInt 64 n &&& BitVec.ofInt 64 15).toNat = (n % ((2 ^ 64 : Nat) : Int)).toNat % 2 ^ 4 := by
    rw [BitVec.toNat_and, BitVec.toNat_ofInt, h15, Nat.and_two_pow_sub_one_eq_mod]
  show IntKind.i64.wrap ((BitVec.ofInt 64 n &&& BitVec.ofInt 64 15).toNat : Nat) = n % 16
  rw [key, IntKind.wrap_i64]
  omega
theorem Sl.dropB {α : Type} {enc : α → List Value} {w : World} {a : Addr} {l : List α} (h : Sl 1 enc w (some a) l) (k : Nat) : Sl 1 enc w (some (a.add k)) (l.drop k) := by
  intro h0
  obtain ⟨b, off, e, _, _⟩ := h (by rw [List.length_drop] at h0; omega)
  cases e
  have h2 := Sl.dropK (b := b) (off := off) h k h0
  rw [Nat.mul_one] at h2
  rw [add_at _ _ _ _ rfl]
  exact h2
theorem one_row : ∀ x, ∀ u ∈ encRow x, u.oneCell' = true := fun x u h => by simp [encRow] at h; subst h; rfl
set_option maxRecDepth 100000 in
set_option maxHeartbeats 4000000 in
theorem TopEarly_walk (ro : Option Addr) (rc : Nat) (rs : List RuleR) (fold slices : Int) (early : Bool) (lo : Option Addr) (lc : Nat) (lines : List ByteArray) (size : Int) (w : World) (hgt : GT w) (hj : JobIn w ro rc rs fold slices) (hll : lines.length ≤ maxLen) (hs : Sl 1 encS w lo lines) (hn : lo = none → lc = 0) (hcap : lines.length ≤ lc ∧ lc ≤ maxLen) :
    Calls Tryd.prog 3 #[.agg #[.slice ro rs.length rc, .int .i64 fold, .bool early, .int .i64 slices], .slice lo lines.length lc, .int .i64 size] w fun e w' => e = .returned (.bool true) ∧ Below w.heap.size w w' := by
  have hg : GM w := hgt.gm
  have HGT := hide hgt
  clear hgt
  obtain ⟨i1, hi1, hy0, hy1, hy2⟩ := info_parts infoStrM
  obtain ⟨i2, hi2, hx0, hx1, hx2⟩ := info_parts infoRows2
  obtain ⟨i3, hi3, hz0, hz1, hz2⟩ := info_parts infoRows
  obtain ⟨W1, hW1⟩ : ∃ W, W = w.alloc (.cells #[.slice ro rs.length rc, .int .i64 fold, .bool early, .int .i64 slices] 24) := ⟨_, rfl⟩
  have hb1 : Below w.heap.size w W1 := by rw [hW1]; exact (Below.refl _ _).alloc (Nat.le_refl _) _
  have hbj : Bk W1 w.heap.size [.slice ro rs.length rc, .int .i64 fold, .bool early, .int .i64 slices] := by rw [hW1]; exact Bk.new rfl
  have hrl := hj.len
  unfold maxLen at hrl hll
  have HJ := hide hj
  have HG := hide hg
  have HS := hide hs
  have HN := hide hn
  have HB := hide hb1
  have HBJ := hide hbj
  have HW1 := hide hW1
  have HLJ := hide fun w' (hb : Below w.heap.size w w') => LightJob_any ro rc rs fold slices early w' hj.len (hj.sl.later hb (Nat.le_refl _)) fun r hr => by obtain ⟨d, h⟩ := hj.at_ r hr; exact ⟨d, h.later hb (Nat.le_refl _)⟩
  have HJC := hide fun w' (hb : Below w.heap.size w w') => jobCheck_any ro rc rs fold slices early w' hj.len (hj.sl.later hb (Nat.le_refl _)) fun r hr => by obtain ⟨d, h⟩ := hj.at_ r hr; exact ⟨d, h.later hb (Nat.le_refl _)⟩
  have HLT := hide fun w' (hb : Below w.heap.size w w') => LightTexts_any lo lc lines 60 120 w' (by unfold maxLen; omega) (hs.later hb (Nat.le_refl _))
  unfold SomeB at HLJ
  clear hb1 hbj hW1 hg hj hs hn
  go_enter Tryd.func3, Tryd.ntmps3
  go_upto_region 1 with (fail)
  rw [← HW1.out]
  clear HW1
  have HNR := hide (New_run 1 none 0 [] W1 (by decide) (by simp) (by simp [rowsL]) (by intro l hl; simp [rowsL] at hl) Sl.nil (by intro r hr; cases hr))
  go_wp2_with fail
  refine HNR.out.mono ?_
  rintro e w2 ⟨⟨g, rfl, hr2⟩, b2⟩
  have HR2 := hide hr2
  replace HB := hide (HB.out.trans (b2.mono HB.out.size))
  replace HBJ := hide (HBJ.out.later b2)
  have HOU := hide (Out_run w2 (HGT.out.later HB.out (Nat.le_refl _)) hr2 ⟨by simp [rowsL, srt], by intro p hp; simp [rowsL, srt] at hp⟩)
  rw [List.take_zero, show tx (textP []) = ⟨#[]⟩ from rfl] at HOU
  clear hr2 b2 HNR HR2
  go_wp2_with fail
  refine HOU.out.mono ?_
  rintro e w2' ⟨rfl, b2⟩
  replace HB := hide (HB.out.trans (b2.mono HB.out.size))
  replace HBJ := hide (HBJ.out.later b2)
  clear b2 HOU
  have j0 := HBJ.out.get (j := 0) rfl
  have j1 := HBJ.out.get (j := 1) rfl
  have j2 := HBJ.out.get (j := 2) rfl
  have j3 := HBJ.out.get (j := 3) rfl
  go_wp2_with fail
  refine (HLJ.out _ HB.out).mono ?_
  rintro e w3 ⟨⟨b, rfl⟩, b3⟩
  replace j0 := cell_later b3 j0
  replace j1 := cell_later b3 j1
  replace j2 := cell_later b3 j2
  replace j3 := cell_later b3 j3
  replace HB := hide (HB.out.trans (b3.mono HB.out.size))
  replace HBJ := hide (HBJ.out.later b3)
  clear b3 HLJ
  cases b with
  | false =>
    clear HLT HJC
    go_wp2
    go_ret
    exact ⟨rfl, HB.out⟩
  | true =>
  obtain ⟨lt, hlt⟩ : ∃ lt, lightTexts lines 60 120 = lt := ⟨_, rfl⟩
  have HLTX := hide hlt
  rw [hlt] at HLT
  clear hlt
  go_wp2_with fail
  refine (HLT.out _ HB.out).mono ?_
  rintro e w3' ⟨rfl, rfl⟩
  clear HLT
  cases lt with
  | false =>
    clear HJC
    go_wp2
    go_ret
    exact ⟨rfl, HB.out⟩
  | true =>
  obtain ⟨jf, hjf⟩ : ∃ jf, jobF (rs.map RuleR.v) fold slices = jf := ⟨_, rfl⟩
  have HJF := hide hjf
  rw [hjf] at HJC
  clear hjf
  go_wp2_with fail
  refine (HJC.out _ HB.out).mono ?_
  rintro e w4 ⟨rfl, b4⟩
  replace j0 := cell_later b4 j0
  replace j1 := cell_later b4 j1
  replace j2 := cell_later b4 j2
  replace j3 := cell_later b4 j3
  replace HB := hide (HB.out.trans (b4.mono HB.out.size))
  replace HBJ := hide (HBJ.out.later b4)
  clear b4 HJC
  have HJL : Hid (w.heap.size < w4.heap.size) := HBJ.out.lt
  by_cases hj0 : jf = 0
  case neg =>
    rw [errV_pos hj0]
    go_wp2
    go_ret
    exact ⟨rfl, HB.out⟩
  subst hj0
  rw [errV_zero]
  have HOK := hide (JobOk.of HJF.out)
  obtain ⟨many, hmany⟩ : ∃ many : Nat, slices = (many : Int) := ⟨slices.toNat, by have := HOK.out.slices; omega⟩
  subst hmany
  have hm4 : 1 ≤ many ∧ many ≤ 4 := by have := HOK.out.slices; omega
  have hrn : rs.length ≤ 4 := HOK.out.many.2
  have hl60 : lines.length ≤ 60 := by have := (lightTexts_of HLTX.out).1; omega
  have HLS : Hid (∀ l ∈ lines, l.size ≤ 500) := fun l hl => by have := (lightTexts_of HLTX.out).2 l hl; omega
  obtain ⟨d, hd⟩ := rules_deep HJ.out.at_
  have HJA := hide fun (w' : World) (hb : Below w.heap.size w w') => (⟨HJ.out.sl.later hb (Nat.le_refl _), fun r hr => (hd r hr).later hb (Nat.le_refl _)⟩ : JobAt w' ro rs d)
  clear hd
  obtain ⟨m, hm⟩ : ∃ m : Nat, size % 16 = (m : Int) := ⟨(size % 16).toNat, by omega⟩
  have hand : bits .and .i64 size 15 = (m : Int) := by rw [i64_and15, hm]
  have hm16 : m ≤ 15 := by omega
  clear hm
  go_upto_region 6 with (fail)
  go_upto_region 8 with (fail)
  have HBJ5 := hide (HBJ.out.later ((Below.refl w4.heap.size w4).alloc (Nat.le_refl _) (.cells #[.slice none 0 0, .slice none 0 0] 35)))
  have HB5 := hide (HB.out.alloc HB.out.size (.cells #[.slice none 0 0, .slice none 0 0] 35))
  have HGO : Hid (GRws 1 encS 9 (w4.alloc (.cells #[.slice none 0 0, .slice none 0 0] 35)) w4.heap.size w4.heap.size (List.replicate 2 (.slice none 0 0)) (List.replicate 2 [])) := GRws.made (Bk.new rfl) (Nat.le_refl _)
  have HS5 : Hid (w4.heap.size < (w4.alloc (.cells #[.slice none 0 0, .slice none 0 0] 35)).heap.size) := by show _ < _; simp
  generalize w4.alloc (.cells #[.slice none 0 0, .slice none 0 0] 35) = W5 at *
  clear HB HBJ j0 j1 j2 j3
  obtain ⟨Ob, hOb⟩ : ∃ Ob, Ob = w4.heap.size := ⟨_, rfl⟩
  rw [← hOb] at HGO HJL HS5 ⊢
  clear hOb
  have HLS2 : Hid (∀ l ∈ lines, l.size ≤ 150) := fun l hl => by have := (lightTexts_of HLTX.out).2 l hl; omega
  have HOP := hide (okP_made (rs := rs.map RuleR.v) (lines := lines) (fold := fold) (by rw [List.length_map]; exact HOK.out.many.2) (by intro r hr; obtain ⟨x, hx, rfl⟩ := List.mem_map.1 hr; exact HOK.out.ok x hx) (by omega) HLS2.out)
  have HOL : Hid (∀ (CS : List (List ByteArray)) (eb : Bool) (i : Nat), i < many → CS.flatten = lines → groups fold (srt (given (rs.map RuleR.v) fold eb many CS i).flatten) = outL (rs.map RuleR.v) fold many lines i ∧ okP (srt (given (rs.map RuleR.v) fold eb many CS i).flatten) ∧ (given (rs.map RuleR.v) fold eb many CS i).flatten.length ≤ 100000) := fun CS eb i hi e => by
    have h := HOP.out
    rw [← e] at h
    refine ⟨by rw [given_out hi, e], okP_srt (given_ok h), (given_ok h).1⟩
  generalize outL (rs.map RuleR.v) fold many lines = OL at *
  obtain ⟨PT, hPT⟩ : ∃ PT, ((List.range many).map fun k => tx (textP (OL k))) = PT := ⟨_, rfl⟩
  have HPT := hide hPT
  have hpl : PT.length = many := by rw [← hPT]; simp
  have HPTL := hide hpl
  have hkf : kindFault fold = 0 := by have := HOK.out.fold; unfold kindFault; rw [if_neg (by omega)]
  obtain ⟨lk, hlk⟩ : ∃ lk : Nat → List (List ByteArray), lk = fun k => List.replicate k PT ++ List.replicate (2 - k) [] := ⟨_, rfl⟩
  have HLK := hide hlk
  have HGO0 : Hid (GRws 1 encS 9 W5 Ob Ob (List.replicate 2 (.slice none 0 0)) (lk 0)) := by show GRws _ _ _ _ _ _ _ _; rw [hlk]; exact HGO.out
  clear hPT hpl hlk HOP HLS2 HGO HLTX HG
  go_wp2
  go_loopw [11] (fun kv wr => ∃ (k : Nat) (e' : Bool) (vs : List Value), k ≤ 2 ∧ kv = .int .i64 k ∧ Hid (GRws 1 encS 9 wr Ob Ob vs (lk k)) ∧ Hid (∀ j, k ≤ j → j < 2 → vs[j]? = some (.slice none 0 0)) ∧ Hid (Bk wr w.heap.size [.slice ro rs.length rc, .int .i64 fold, .bool e', .int .i64 many]) ∧ Hid (Below w.heap.size w wr)) (fun kv _ => 2 - (intOf kv).toNat)
  case atStart => exact ⟨0, early, _, by omega, rfl, HGO0, (fun j _ h => by rw [List.getElem?_replicate, if_pos h]), HBJ5, HB5⟩
  case round =>
    clear HGO0 HBJ5 HB5 HS5
    obtain ⟨k, e', vs, hk, rfl, HGO, HVN, HBJ, HB⟩ := hrel
    have HOJ : Hid (w.heap.size < Ob ∧ Ob < wr.heap.size) := ⟨HJL.out, HGO.out.bk.lt⟩
    by_cases hlt : k < 2
    · obtain ⟨eb, heb⟩ : ∃ eb, ((k : Int) == 1) = eb := ⟨_, rfl⟩
      have z2 := HBJ.out.fz 2
      have j2 := HBJ.out.get (j := 2) rfl
      go_upto_region 11 with (fail)
      go_upto_region 12 with (fail)
      have HBJA : Hid (Bk (wr.setCell ⟨w.heap.size, 2, none⟩ (.bool eb)) w.heap.size [.slice ro rs.length rc, .int .i64 fold, .bool eb, .int .i64 many]) := HBJ.out.set (k := 2) (u := .bool e') (.bool eb) rfl
      have HBA := hide (HB.out.setCell (p := ⟨w.heap.size, 2, none⟩) (Nat.le_refl _) (.bool eb))
      have HGA := hide (HGO.out.kept ((KeptBut.refl (fun q => q = w.heap.size) wr).setCell (p := ⟨w.heap.size, 2, none⟩) rfl (.bool eb)) fun q e => by have := HOJ.out.1; omega)
      have HOA : Hid (w.heap.size < Ob ∧ Ob < (wr.setCell ⟨w.heap.size, 2, none⟩ (.bool eb)).heap.size) := ⟨HOJ.out.1, HGA.out.bk.lt⟩
      generalize wr.setCell ⟨w.heap.size, 2, none⟩ (.bool eb) = WA at *
      clear HGO HBJ HB j2 z2 HOJ
      have j0 := HBJA.out.get (j := 0) rfl
      have j1 := HBJA.out.get (j := 1) rfl
      have j2 := HBJA.out.get (j := 2) rfl
      have j3 := HBJA.out.get (j := 3) rfl
      go_wp2_with (refine wpList_make_list (enc := encV) (fun _ => rfl) _ _ 36 i2 _ (.slice none 0 0) many rfl rfl Tryd.underlying36 hi2 hx0 hx1 rfl rfl (by rw [hx2]; decide) rfl rfl (by omega) (Below.refl WA.heap.size WA) (Nat.le_refl _) ?_)
      intro wB ho hbB hb1
      have HD0 : Hid (EDeal wB WA.heap.size WA.heap.size (List.replicate many (.slice none 0 0)) (List.replicate many [])) := EDeal.made (bk_of_own ho) (Nat.le_refl _)
      have HBB := hide hbB
      have HJA0 := hide fun (w' : World) (hb : Below WA.heap.size WA w') => HJA.out w' (HBA.out.trans (hb.mono HBA.out.size))
      replace j0 := cell_later hbB j0
      replace j1 := cell_later hbB j1
      replace j2 := cell_later hbB j2
      replace j3 := cell_later hbB j3
      clear ho hb1 hbB
      obtain ⟨Pb, hPb⟩ : ∃ Pb, Pb = WA.heap.size := ⟨_, rfl⟩
      have HWA : Hid (WA.heap.size = Pb) := hPb.symm
      rw [← hPb] at HD0 HOA HBB HJA0 ⊢
      clear hPb
      have HLE : Hid (Pb ≤ wB.heap.size) := by rw [← HWA.out]; exact HBB.out.size
      go_wp2
      go_loopw [13] (fun av wr2 => ∃ (CS : List (List ByteArray)) (a : Nat) (pv : List Value) (pss : List (List RowP)), CS.flatten = lines.take a ∧ CS.length ≤ a ∧ a ≤ 76 ∧ av = .int .i64 a ∧ Hid (EDeal wr2 Pb Pb pv pss) ∧ pss.length = many ∧ Hid (∀ (i : Nat) rows, pss[i]? = some rows → rowsL rows = given (rs.map RuleR.v) fold eb many CS i ∧ ∀ r ∈ rows, ∀ b o, r.1 = some ⟨b, o, none⟩ → Pb ≤ b) ∧ Hid (Below Pb WA wr2)) (fun av _ => lines.length - (intOf av).toNat)
      case atStart => exact ⟨[], 0, _, _, by simp, by simp, by omega, rfl, HD0, by simp, (fun i rows h => by rw [(List.mem_replicate.1 (List.mem_of_getElem? h)).2]; exact ⟨rfl, fun r hr => by cases hr⟩), HBB⟩
      case round =>
        obtain ⟨CS, a, pv, pss, hcs, hcl, ha, rfl, HD, hpl, HROW, HBR⟩ := hrel
        by_cases hlta : a < lines.length
        · obtain ⟨hh, hhh⟩ : ∃ hh : Nat, min (a + (m + 1)) lines.length = hh := ⟨_, rfl⟩
          have hha : a < hh ∧ hh ≤ lines.length ∧ hh ≤ a + (m + 1) ∧ (hh = a + (m + 1) ∨ hh = lines.length) := by omega
          have hmin : min ((a : Int) + (1 + (m : Int))) (lines.length : Int) = (hh : Int) := by omega
          have hmin2 : min (a + (1 + m)) lines.length = hh := by omega
          clear hhh
          obtain ⟨c, hc⟩ : ∃ c, (lines.take hh).drop a = c := ⟨_, rfl⟩
          have hcl2 : c.length = hh - a := by rw [← hc, List.length_drop, List.length_take]; omega
          have HCL : Hid (c.length = hh - a) := hcl2
          have HCS : Hid ((CS ++ [c]).flatten = lines.take (a + (1 + m))) := by
            show _ = _
            rw [List.flatten_append, hcs, ← hc]
            have e1 : lines.take (a + (1 + m)) = lines.take hh := by
              rcases hha.2.2.2 with e | e
              · rw [e]; congr 1; omega
              · rw [List.take_of_length_le (by omega), List.take_of_length_le (by omega)]
            rw [e1]
            have e2 : lines.take a = (lines.take hh).take a := by rw [List.take_take]; congr 1; omega
            rw [e2]
            simp only [List.flatten_cons, List.flatten_nil, List.append_nil]
            exact List.take_append_drop _ _
          have HLSC : Hid (∀ l ∈ c, l.size ≤ 500) := fun l hl => HLS.out l (by rw [← hc] at hl; exact List.mem_of_mem_take (List.mem_of_mem_drop hl))
          have hJP : w.heap.size < Pb := by have := HOA.out; omega
          have HJP := hide hJP
          have q0 := (HBR.out.cell (p := ⟨w.heap.size, 0, none⟩) hJP).trans (HBJA.out.get (j := 0) rfl)
          have q1 := (HBR.out.cell (p := ⟨w.heap.size, 1, none⟩) hJP).trans (HBJA.out.get (j := 1) rfl)
          have q2 := (HBR.out.cell (p := ⟨w.heap.size, 2, none⟩) hJP).trans (HBJA.out.get (j := 2) rfl)
          have q3 := (HBR.out.cell (p := ⟨w.heap.size, 3, none⟩) hJP).trans (HBJA.out.get (j := 3) rfl)
          have HPR : Hid (Pb ≤ wr.heap.size) := by have h1 := HBR.out.size; rw [HWA.out] at h1; exact h1
          have HJR := hide fun (w' : World) (hb : Below wr.heap.size wr w') => HJA0.out w' (HBR.out.trans (hb.mono HPR.out))
          have HSR := hide fun (w' : World) (hb : Below wr.heap.size wr w') => HS.out.later (HBA.out.trans ((HBR.out.trans (hb.mono HPR.out)).mono (by have := HJP.out; omega))) (Nat.le_refl _)
          have HGR := hide fun (w' : World) (hb : Below wr.heap.size wr w') => HGT.out.later (HBA.out.trans ((HBR.out.trans (hb.mono HPR.out)).mono (by have := HJP.out; omega))) (Nat.le_refl _)
          cases lo with
          | none =>
            have := HN.out rfl
            omega
          | some ad =>
          have HNA : Hid (∀ w' : World, Below wr.heap.size wr w' → Calls Tryd.prog 10 #[.agg #[.slice ro rs.length rc, .int .i64 fold, .bool eb, .int .i64 many], .slice (some (ad.add a)) (hh - a) (lc - a)] w' fun e w'' => (∃ v, e = .returned (.tuple #[v, .nilIface]) ∧ MRunV w'' w'.heap.size ro rc rs fold many eb c 0 (fun q => w'.heap.size ≤ q ∧ q < w''.heap.size) v) ∧ Below w'.heap.size w' w'') := by
            intro w' hb
            have hsl : Sl 1 encS w' (some (ad.add a)) c := by rw [← hc]; exact Sl.dropB (Sl.takeK (HSR.out w' hb) hh) a
            have h := MNew_run ro rc rs fold many eb d (some (ad.add a)) (lc - a) c w' (HJR.out w' hb) (by unfold maxLen; omega) hsl (fun e => by cases e) HJF.out (by rw [HCL.out]; omega)
            rw [HCL.out] at h
            exact h
          have hla : ¬ lc = a := by omega
          have hsum : IntKind.i64.wrap ((a : Int) + (1 + (m : Int))) = (a : Int) + (1 + (m : Int)) := IntWalk.i64_in _ (by omega)
          have f1 : (0 : Int) ≤ (a : Int) ∧ (a : Int) ≤ (hh : Int) ∧ (hh : Int) ≤ (lc : Int) := by omega
          obtain ⟨f1, f2, f3⟩ := f1
          clear hcs hc hcl2
          go_upto_region 16 with (fail)
          go_cut [14, 15] from 69 to 82 (fun v ev wc => ev = .nilIface ∧ Hid (MRunV wc wr.heap.size ro rc rs fold many eb c 0 (fun q => wr.heap.size ≤ q ∧ q < wc.heap.size) v) ∧ Hid (Below wr.heap.size wr wc))
          case first =>
            refine wp_region_noPanic ?_
            refine wp_region_heldE_drew (S := (fun w' => Below wr.heap.size wr w')) (E := [15]) (by kernel_rfl) ?_ (fun hHeld => ?_)
            · (first | exact (Below.refl _ _).drew | exact hHeld.trans (b1.mono hHeld.size) | exact hHeld)
            try dsimp only [List.size_toArray, List.length_cons, List.length_nil, Nat.reduceAdd]
            refine wpAnyHE_take (i := 0) (oi := { dst := some 70, op := Op.load 24 (Operand.tmp 3), type := 24, pos := "top.go:234", after := #[], guard := none }) (v := ?_) [[0]] rfl (by kernel_rfl) (by kernel_rfl) (by kernel_rfl) (by kernel_rfl) (by kernel_rfl) (fun _ _ _ h => h) (Or.inl ⟨by rfl, ?_⟩) (by assumption) ?_
            rotate_left
            · (intro w hSw; (try dsimp only at hSw); (have t0 := cell_later hSw q0; have t1 := cell_later hSw q1; have t2 := cell_later hSw q2; have t3 := cell_later hSw q3); go_simp; try with_reducible rfl)
            try simp only [Act.put, List.setIfInBounds_toArray, List.set_cons_zero, List.set_cons_succ]
            refine wpAnyHE_takeP (i := 1) (oi := { dst := some 71, op := Op.move (Operand.tmp 1), type := 25, pos := "top.go:234", after := #[], guard := none }) (v := ?_) rfl (by kernel_rfl) (by kernel_rfl) (by kernel_rfl) (fun _ _ _ h => h) (Or.inl ⟨by rfl, ?_⟩) ?_
            rotate_left
            · (intro w _; go_simp; try with_reducible rfl)
            try simp only [Act.put, List.setIfInBounds_toArray, List.set_cons_zero, List.set_cons_succ]
            refine wpAnyHE_takeP (i := 2) (oi := { dst := some 72, op := Op.move (Operand.tmp 13), type := 3, pos := "top.go:234", after := #[], guard := none }) (v := ?_) rfl (by kernel_rfl) (by kernel_rfl) (by kernel_rfl) (fun _ _ _ h => h) (Or.inl ⟨by rfl, ?_⟩) ?_
            rotate_left
            · (intro w _; go_simp; try with_reducible rfl)
            try simp only [Act.put, List.setIfInBounds_toArray, List.set_cons_zero, List.set_cons_succ]
            refine wpAnyHE_takeP (i := 3) (oi := { dst := some 73, op := Op.move (Operand.tmp 13), type := 3, pos := "top.go:234", after := #[], guard := none }) (v := ?_) rfl (by kernel_rfl) (by kernel_rfl) (by kernel_rfl) (fun _ _ _ h => h) (Or.inl ⟨by rfl, ?_⟩) ?_
            rotate_left
            · (intro w _; go_simp; try with_reducible rfl)
            try simp only [Act.put, List.setIfInBounds_toArray, List.set_cons_zero, List.set_cons_succ]
            refine wpAnyHE_takeP (i := 4) (oi := { dst := some 74, op := Op.move (Operand.tmp 9), type := 3, pos := "top.go:234", after := #[], guard := none }) (v := ?_) rfl (by kernel_rfl) (by kernel_rfl) (by kernel_rfl) (fun _ _ _ h => h) (Or.inl ⟨by rfl, ?_⟩) ?_
            rotate_left
            · (intro w _; go_simp; try with_reducible rfl)
            try simp only [Act.put, List.setIfInBounds_toArray, List.set_cons_zero, List.set_cons_succ]
            refine wpAnyHE_takeP (i := 5) (oi := { dst := some 75, op := Op.binOp BinOp.add 3 (Operand.tmp 73) (Operand.tmp 74) 3, type := 3, pos := "top.go:234", after := #[{ on := 3, ground := Ground.data }, { on := 4, ground := Ground.data }], guard := none }) (v := ?_) rfl (by kernel_rfl) (by kernel_rfl) (by kernel_rfl) (fun _ _ _ h => h) (Or.inl ⟨by rfl, ?_⟩) ?_
            rotate_left
            · (intro w _; go_simp; try with_reducible rfl)
            try simp only [Act.put, List.setIfInBounds_toArray, List.set_cons_zero, List.set_cons_succ]
            refine wpAnyHE_takeP (i := 6) (oi := { dst := some 76, op := Op.move (Operand.tmp 1), type := 25, pos := "top.go:234", after := #[], guard := none }) (v := ?_) rfl (by kernel_rfl) (by kernel_rfl) (by kernel_rfl) (fun _ _ _ h => h) (Or.inl ⟨by rfl, ?_⟩) ?_
            rotate_left
            · (intro w _; go_simp; try with_reducible rfl)
            try simp only [Act.put, List.setIfInBounds_toArray, List.set_cons_zero, List.set_cons_succ]
            refine wpAnyHE_takeP (i := 7) (oi := { dst := some 77, op := Op.call { callee := Callee.builtin Builtin.len, args := #[Operand.tmp 76], argTypes := #[25] }, type := 3, pos := "top.go:234", after := #[{ on := 6, ground := Ground.data }], guard := none }) (v := ?_) rfl (by kernel_rfl) (by kernel_rfl) (by kernel_rfl) (fun _ _ _ h => h) (Or.inl ⟨by rfl, ?_⟩) ?_
            rotate_left
            · (intro w _; go_simp; try with_reducible rfl)
            try simp only [Act.put, List.setIfInBounds_toArray, List.set_cons_zero, List.set_cons_succ]
            refine wpAnyHE_takeP (i := 8) (oi := { dst := some 78, op := Op.call { callee := Callee.builtin Builtin.min, args := #[Operand.tmp 75, Operand.tmp 77], argTypes := #[3, 3] }, type := 3, pos := "top.go:234", after := #[{ on := 5, ground := Ground.data }, { on := 7, ground := Ground.data }], guard := none }) (v := ?_) rfl (by kernel_rfl) (by kernel_rfl) (by kernel_rfl) (fun _ _ _ h => h) (Or.inl ⟨by rfl, ?_⟩) ?_
            rotate_left
            · (intro w _; go_simp; try with_reducible rfl)
            try simp only [Act.put, List.setIfInBounds_toArray, List.set_cons_zero, List.set_cons_succ]
            refine wpAnyHE_takeP (i := 9) (oi := { dst := some 79, op := Op.slice 25 (Operand.tmp 71) (some (Operand.tmp 72)) (some (Operand.tmp 78)) none, type := 25, pos := "top.go:234", after := #[{ on := 1, ground := Ground.data }, { on := 2, ground := Ground.data }, { on := 8, ground := Ground.data }], guard := none }) (v := ?_) rfl (by kernel_rfl) (by kernel_rfl) (by kernel_rfl) (fun _ _ _ h => h) (Or.inl ⟨by rfl, ?_⟩) ?_
            rotate_left
            · (intro w _; go_simp; try with_reducible rfl)
            try simp only [Act.put, List.setIfInBounds_toArray, List.set_cons_zero, List.set_cons_succ]
            refine wpAnyHE_ready (rs := [10]) (by kernel_rfl) (by simp) ?_
            refine AllReadyE.cons (o := { dst := some 80, op := Op.call { callee := Callee.value (Operand.func 10), args := #[Operand.tmp 70, Operand.tmp 79], argTypes := #[24, 25] }, type := 38, pos := "top.go:234", after := #[{ on := 0, ground := Ground.data }, { on := 9, ground := Ground.data }], guard := none }) rfl (fun KH hKH => ?_) AllReadyE.nil
            go_simp
            (go_at_call 10; refine (HNA.out _ hHeld).mono ?_; rintro e w1 ⟨⟨v1, rfl, hr1⟩, b1⟩; obtain ⟨g1, rfl⟩ := hr1.ptr)
            try go_wp2_with fail
            refine hKH.out _ _ ?_ (fun hNew => ?_)
            · (first | exact (Below.refl _ _).drew | exact hHeld.trans (b1.mono hHeld.size) | exact hHeld)
            clear hKH KH hHeld
            have hHeld := hNew
            clear hNew
            try simp only [Act.put, List.setIfInBounds_toArray, List.set_cons_zero, List.set_cons_succ]
            refine wpAnyHE_takeP (i := 11) (oi := { dst := some 69, op := Op.move (Operand.tmp 80), type := 38, pos := "top.go:234", after := #[{ on := 10, ground := Ground.data }], guard := none }) (v := ?_) rfl (by kernel_rfl) (by kernel_rfl) (by kernel_rfl) (fun _ _ _ h => h) (Or.inl ⟨by rfl, ?_⟩) ?_
            rotate_left
            · (intro w _; go_simp; try with_reducible rfl)
            try simp only [Act.put, List.setIfInBounds_toArray, List.set_cons_zero, List.set_cons_succ]
            refine wpAnyHE_takeP (i := 12) (oi := { dst := some 81, op := Op.extract (Operand.tmp 69) 0, type := 37, pos := "top.go:234", after := #[{ on := 11, ground := Ground.data }], guard := none }) (v := ?_) rfl (by kernel_rfl) (by kernel_rfl) (by kernel_rfl) (fun _ _ _ h => h) (Or.inl ⟨by rfl, ?_⟩) ?_
            rotate_left
            · (intro w _; go_simp; try with_reducible rfl)
            try simp only [Act.put, List.setIfInBounds_toArray, List.set_cons_zero, List.set_cons_succ]
            refine wpAnyHE_takeP (i := 13) (oi := { dst := some 82, op := Op.extract (Operand.tmp 69) 1, type := 28, pos := "top.go:234", after := #[{ on := 11, ground := Ground.data }, { on := 14, ground := Ground.gcOnly Departure.lateStores }], guard := none }) (v := ?_) rfl (by kernel_rfl) (by kernel_rfl) (by kernel_rfl) (fun _ _ _ h => h) (Or.inl ⟨by rfl, ?_⟩) ?_
            rotate_left
            · (intro w _; go_simp; try with_reducible rfl)
            try simp only [Act.put, List.setIfInBounds_toArray, List.set_cons_zero, List.set_cons_succ]
            refine wpAnyHE_takeP (i := 14) (oi := { dst := some 14, op := Op.assign (Operand.tmp 81), type := 37, pos := "top.go:234", after := #[{ on := 12, ground := Ground.data }, { on := 10, ground := Ground.chain }, { on := 0, ground := Ground.phase }, { on := 1, ground := Ground.phase }, { on := 2, ground := Ground.phase }, { on := 3, ground := Ground.phase }, { on := 4, ground := Ground.phase }, { on := 5, ground := Ground.phase }, { on := 6, ground := Ground.phase }, { on := 7, ground := Ground.phase }, { on := 8, ground := Ground.phase }, { on := 9, ground := Ground.phase }, { on := 10, ground := Ground.phase }, { on := 11, ground := Ground.phase }, { on := 12, ground := Ground.phase }, { on := 13, ground := Ground.textOnly Departure.lateStores }], guard := none }) (v := ?_) rfl (by kernel_rfl) (by kernel_rfl) (by kernel_rfl) (fun _ _ _ h => h) (Or.inl ⟨by rfl, ?_⟩) ?_
            rotate_left
            · (intro w _; go_simp; try with_reducible rfl)
            try simp only [Act.put, List.setIfInBounds_toArray, List.set_cons_zero, List.set_cons_succ]
            refine wpAnyHE_ready (rs := [15]) (by kernel_rfl) (by simp) ?_
            refine AllReadyE.consE (o := { dst := some 15, op := Op.assign (Operand.tmp 82), type := 28, pos := "top.go:234", after := #[{ on := 13, ground := Ground.data }, { on := 14, ground := Ground.chain }, { on := 0, ground := Ground.phase }, { on := 1, ground := Ground.phase }, { on := 2, ground := Ground.phase }, { on := 3, ground := Ground.phase }, { on := 4, ground := Ground.phase }, { on := 5, ground := Ground.phase }, { on := 6, ground := Ground.phase }, { on := 7, ground := Ground.phase }, { on := 8, ground := Ground.phase }, { on := 9, ground := Ground.phase }, { on := 10, ground := Ground.phase }, { on := 11, ground := Ground.phase }, { on := 12, ground := Ground.phase }, { on := 13, ground := Ground.phase }, { on := 14, ground := Ground.phase }], guard := none }) rfl (by kernel_rfl) (fun KH hKH => ?_) AllReadyE.nil
            have HBX := hide hHeld
            go_simp
            refine hKH.out _ _ ?_
            clear hKH KH
            try clear hHeld
            try simp only [Act.put, List.setIfInBounds_toArray, List.set_cons_zero, List.set_cons_succ]
            refine wpAnyHE_done (by kernel_rfl) ?_ _
            refine NoPanic.normal ?_
            go_wp2
            go_meet
            exact ⟨rfl, hr1.more (fun q h => ⟨Nat.le_trans (by simp) h.1, h.2⟩), HBX⟩
          case rest =>
          obtain ⟨rfl, HRA, HBC⟩ := hcut
          clear HNA hand
          obtain ⟨g1, rfl⟩ := HRA.out.ptr
          have HPC : Hid (wr.heap.size ≤ wc.heap.size) := HBC.out.size
          have HSTA := hide (MStep_run d 60 wc HPC.out (fun w' hb => (HGR.out w' (HBC.out.trans hb)).gm) (fun w' hb => HJR.out w' (HBC.out.trans hb)) HOK.out HRA.out HLSC.out (by rw [HCL.out]; omega) (by decide))
          rw [show min (0 + (60 : Int).toNat) c.length = c.length by rw [HCL.out]; omega] at HSTA
          go_wp2_with fail
          refine HSTA.out.mono ?_
          rintro e wf ⟨⟨rfl, ha2⟩, kA⟩
          have HRF := hide ha2
          have bA : Below wr.heap.size wc wf := kA.below (fun q hq => hq.1) HPC.out
          have HBF := hide (HBC.out.trans bA)
          clear HSTA ha2 kA HRA bA
          have HXA := hide (MSlices_run wf HRF.out HOK.out HLSC.out (by rw [HCL.out]; omega))
          rw [List.take_length] at HXA
          go_wp2_with fail
          refine HXA.out.mono ?_
          rintro e wg ⟨so, sv, rfl, hx, bg⟩
          have HX := hide hx
          have HPF : Hid (wr.heap.size ≤ wf.heap.size) := HBF.out.size
          have HFG : Hid (wf.heap.size ≤ wg.heap.size) := bg.size
          have HBG := hide (HBF.out.trans (bg.mono HPF.out))
          have HDG := hide (HD.out.later HBG.out)
          replace q0 := cell_later HBG.out q0
          replace q1 := cell_later HBG.out q1
          replace q2 := cell_later HBG.out q2
          replace q3 := cell_later HBG.out q3
          have HBGP := hide (HBR.out.trans (HBG.out.mono HPR.out))
          have HVF : Hid (∀ (j : Nat) u q, pv[j]? = some u → u.ownBlock = some q → q < wf.heap.size) := fun j u q hu hq => by
            obtain ⟨hl1, hx1⟩ := List.getElem?_eq_some_iff.1 hu
            have hl2 := HD.out.rws.len
            have h3 := ((HD.out.rws.own j u _ hu (List.getElem?_eq_getElem (by omega))).lt q hq).2
            have h4 := HPF.out
            omega
          have HXN := hide (cutP_len fold eb many (madeL (rs.map RuleR.v) fold c))
          have HCG : Hid (∀ (n : Nat) l, n < many → (cutP fold eb many (madeL (rs.map RuleR.v) fold c))[n]? = some l → given (rs.map RuleR.v) fold eb many (CS ++ [c]) n = given (rs.map RuleR.v) fold eb many CS n ++ [l]) := fun n l hn hl => by rw [cutSl_get hn hl, given_snoc]
          clear HXA hx bg HRF HBF HBC HPC
          generalize cutP fold eb many (madeL (rs.map RuleR.v) fold c) = ss at *
          have hmm : ((many : Int) != (many : Int)) = false := by simp
          go_wp2
          go_loopw [17] (fun iv wq => ∃ (i : Nat) (qv : List Value) (qss : List (List RowP)), i ≤ many ∧ iv = .int .i64 i ∧ Hid (EDeal wq Pb Pb qv qss) ∧ qss.length = many ∧ Hid (∀ (j : Nat) rows, qss[j]? = some rows → rowsL rows = (if j < i then given (rs.map RuleR.v) fold eb many (CS ++ [c]) j else given (rs.map RuleR.v) fold eb many CS j) ∧ ∀ r ∈ rows, ∀ b o, r.1 = some ⟨b, o, none⟩ → Pb ≤ b) ∧ Hid (∀ (j : Nat) u q, qv[j]? = some u → u.ownBlock = some q → q < wf.heap.size ∨ wg.heap.size ≤ q) ∧ Hid (KeptBut (fun q => q < wf.heap.size) wg wq) ∧ Hid (Below Pb WA wq)) (fun iv _ => many - (intOf iv).toNat)
          case atStart => exact ⟨0, pv, pss, by omega, rfl, HDG, hpl, (fun j rows h => by rw [if_neg (by omega)]; exact HROW.out j rows h), (fun j u q hu hq => .inl (HVF.out j u q hu hq)), KeptBut.refl _ _, HBGP⟩
          case round =>
            rename_i wr0 _
            obtain ⟨i, qv, qss, hi, rfl, HDQ, hql, HRQ, HVQ, HKQ, HBQ⟩ := hrel
            have q3 := (HBQ.out.cell (p := ⟨w.heap.size, 3, none⟩) HJP.out).trans (HBJA.out.get (j := 3) rfl)
            by_cases hlti : i < many
            · obtain ⟨v2, l2, hv2, hl2, ho2g, _⟩ := HX.out.row (k := i) (by rw [HXN.out]; exact hlti)
              have hXQ := HX.out.kept HKQ.out fun q h => h
              have ho2 := hXQ.own i v2 l2 hv2 hl2
              have cs2 := hXQ.bk.get hv2
              obtain ⟨xa, xc, rfl⟩ := id ho2.1
              have HXB : Hid (∀ b o, xa = some ⟨b, o, none⟩ → wf.heap.size ≤ b ∧ b < wg.heap.size) := fun b o e => by
                subst e
                exact ho2g.lt b rfl
              have HSX := hide (ho2.sl encP_len)
              obtain ⟨v, rows, hv, hl, how, cv⟩ := HDQ.out.rws.row (k := i) (by rw [hql]; exact hlti)
              obtain ⟨fa, fc, rfl⟩ := id how.1
              have HOW := hide how
              have HVK := hide hv
              have HLL := hide hl
              have HKS : Hid (wg.heap.size ≤ wr.heap.size) := HKQ.out.size
              have HPF2 : Hid (Pb < wf.heap.size) := by have h1 := HDG.out.rws.bk.lt; have h2 := HD.out.rws.bk.lt; have h3 := HPF.out; show _ < _; omega
              have hrw := HRQ.out i rows hl
              rw [if_neg (by omega)] at hrw
              have hrl : rows.length = CS.length := by have h1 := congrArg List.length hrw.1; simpa [rowsL, given] using h1
              have HFL : Hid (rows.length + 1 ≤ 1000000000) := by show _ ≤ _; omega
              have HRN : Hid (∀ (j : Nat) rows', (qss.set i (rows ++ [(xa, xc, l2)]))[j]? = some rows' → rowsL rows' = (if j < i + 1 then given (rs.map RuleR.v) fold eb many (CS ++ [c]) j else given (rs.map RuleR.v) fold eb many CS j) ∧ ∀ r ∈ rows', ∀ b o, r.1 = some ⟨b, o, none⟩ → Pb ≤ b) := fun j rows' hj => by
                by_cases e : j = i
                · subst e
                  rw [List.getElem?_set_self (by omega)] at hj
                  cases hj
                  rw [if_pos (by omega)]
                  refine ⟨?_, fun r hr b o e => ?_⟩
                  · have h1 : rowsL (rows ++ [(xa, xc, l2)]) = rowsL rows ++ [l2] := by simp [rowsL]
                    rw [h1, hrw.1, HCG.out j l2 hlti hl2]
                  · rcases List.mem_append.1 hr with hr | hr
                    · exact hrw.2 r hr b o e
                    · rw [List.mem_singleton.1 hr] at e
                      have h1 := (HXB.out b o e).1
                      have h2 := HPF2.out
                      omega
                · rw [List.getElem?_set_ne (fun e2 => e e2.symm)] at hj
                  have h1 := HRQ.out j rows' hj
                  refine ⟨?_, h1.2⟩
                  rw [h1.1]
                  by_cases e2 : j < i
                  · rw [if_pos e2, if_pos (by omega)]
                  · rw [if_neg e2, if_neg (by omega)]
              have HVQN : Hid (∀ v' : Value, (∀ q, v'.ownBlock = some q → (Value.slice fa rows.length fc).ownBlock = some q ∨ wr.heap.size ≤ q) → ∀ (j : Nat) u q, (qv.set i v')[j]? = some u → u.ownBlock = some q → q < wf.heap.size ∨ wg.heap.size ≤ q) := fun v' h j u q hu hq => by
                by_cases e : j = i
                · subst e
                  rw [List.getElem?_set_self (List.getElem?_eq_some_iff.1 hv).1] at hu
                  cases hu
                  rcases h q hq with h1 | h1
                  · exact HVQ.out j _ q hv h1
                  · have := HKS.out; exact .inr (by omega)
                · rw [List.getElem?_set_ne (fun e2 => e e2.symm)] at hu
                  exact HVQ.out j u q hu hq
              have HKN : Hid (∀ (A w1 : World) (v' : Value), Below wr.heap.size wr A → A.grownBy w1 (Value.slice fa rows.length fc).ownBlock → KeptBut (fun q => q < wf.heap.size) wg (w1.setCell ⟨Pb, i, none⟩ v')) := fun A w1 v' hA hg =>
                ((HKQ.out.trans (KeptBut.of_below hA (Nat.le_refl _))).grownTo hg fun k e => HVQ.out i _ k hv e).setCell (p := ⟨Pb, i, none⟩) HPF2.out v'
              have HBB2 : Hid (∀ b o, ((xa, xc, l2) : RowP).1 = some ⟨b, o, none⟩ → (b ≠ Pb ∧ b < wr.heap.size) ∧ ∀ (j : Nat) u, qv[j]? = some u → u.ownBlock ≠ some b) := fun b o e => by
                have h1 := HXB.out b o e
                have h2 := HPF2.out
                have h3 := HKS.out
                refine ⟨⟨by omega, by omega⟩, fun j u hu hq => ?_⟩
                rcases HVQ.out j u b hu hq with h4 | h4 <;> omega
              have HNW : Hid (∀ (j : Nat) (u : Value), (encRow (xa, xc, l2))[j]? = some u → (wr.drew.alloc (.cells #[.slice xa l2.length xc] 43)).cell? ((⟨wr.heap.size, 0, none⟩ : Addr).add j) = some u) := news_at (w := wr.drew) rfl rfl
              have HRL1 : Hid ((rows ++ [(xa, xc, l2)]).length = rows.length + 1) := by show _ = _; simp
              have HQL : Hid ((qss.set i (rows ++ [(xa, xc, l2)])).length = many) := by show _ = _; rw [List.length_set]; exact hql
              have HPQ : Hid (Pb ≤ wr.heap.size) := by have h1 := HBQ.out.size; rw [HWA.out] at h1; exact h1
              have f4 : (0 : Int) ≤ (i : Int) ∧ (i : Int) < (many : Int) := by omega
              obtain ⟨f4, f5⟩ := f4
              clear hv2 hl2 ho2g hXQ ho2 hv hl how hrw hrl
              go_upto_region 26 with (fail)
              refine wp_region_noPanic ?_
              refine wp_region_heldE_drew (S := (fun w' => Below wr.heap.size wr w')) (E := [11, 12, 13]) (by kernel_rfl) ?_ (fun hHeld => ?_)
              · (first | exact (Below.refl _ _).drew | exact hHeld.alloc hHeld.size _)
              try dsimp only [List.size_toArray, List.length_cons, List.length_nil, Nat.reduceAdd]
              refine wpAnyHE_takeP (i := 0) (oi := { dst := some 100, op := Op.move (Operand.tmp 12), type := 36, pos := "top.go:244", after := #[], guard := none }) (v := ?_) rfl (by kernel_rfl) (by kernel_rfl) (by kernel_rfl) (fun _ _ _ h => h) (Or.inl ⟨by rfl, ?_⟩) ?_
              rotate_left
              · (intro w _; go_simp; try with_reducible rfl)
              try simp only [Act.put, List.setIfInBounds_toArray, List.set_cons_zero, List.set_cons_succ]
              refine wpAnyHE_takeP (i := 1) (oi := { dst := some 101, op := Op.move (Operand.tmp 17), type := 3, pos := "top.go:244", after := #[], guard := none }) (v := ?_) rfl (by kernel_rfl) (by kernel_rfl) (by kernel_rfl) (fun _ _ _ h => h) (Or.inl ⟨by rfl, ?_⟩) ?_
              rotate_left
              · (intro w _; go_simp; try with_reducible rfl)
              try simp only [Act.put, List.setIfInBounds_toArray, List.set_cons_zero, List.set_cons_succ]
              refine wpAnyHE_takeP (i := 2) (oi := { dst := some 102, op := Op.move (Operand.tmp 12), type := 36, pos := "top.go:244", after := #[], guard := none }) (v := ?_) rfl (by kernel_rfl) (by kernel_rfl) (by kernel_rfl) (fun _ _ _ h => h) (Or.inl ⟨by rfl, ?_⟩) ?_
              rotate_left
              · (intro w _; go_simp; try with_reducible rfl)
              try simp only [Act.put, List.setIfInBounds_toArray, List.set_cons_zero, List.set_cons_succ]
              refine wpAnyHE_takeP (i := 3) (oi := { dst := some 103, op := Op.move (Operand.tmp 17), type := 3, pos := "top.go:244", after := #[], guard := none }) (v := ?_) rfl (by kernel_rfl) (by kernel_rfl) (by kernel_rfl) (fun _ _ _ h => h) (Or.inl ⟨by rfl, ?_⟩) ?_
              rotate_left
              · (intro w _; go_simp; try with_reducible rfl)
              try simp only [Act.put, List.setIfInBounds_toArray, List.set_cons_zero, List.set_cons_succ]
              refine wpAnyHE_takeP (i := 4) (oi := { dst := some 104, op := Op.indexAddr 36 (Operand.tmp 102) (Operand.tmp 103), type := 0, pos := "top.go:244", after := #[{ on := 2, ground := Ground.data }, { on := 3, ground := Ground.data }], guard := none }) (v := ?_) rfl (by kernel_rfl) (by kernel_rfl) (by kernel_rfl) (fun _ _ _ h => h) (Or.inl ⟨by rfl, ?_⟩) ?_
              rotate_left
              · (intro w _; go_simp; try with_reducible rfl)
              try simp only [Act.put, List.setIfInBounds_toArray, List.set_cons_zero, List.set_cons_succ]
              refine wpAnyHE_take (i := 5) (oi := { dst := some 105, op := Op.load 41 (Operand.tmp 104), type := 41, pos := "top.go:244", after := #[{ on := 4, ground := Ground.data }], guard := none }) (v := ?_) [[5], [5], [5]] rfl (by kernel_rfl) (by kernel_rfl) (by kernel_rfl) (by kernel_rfl) (by kernel_rfl) (fun _ _ _ h => h) (Or.inl ⟨by rfl, ?_⟩) (by assumption) ?_
              rotate_left
              · (intro w hSw; (try dsimp only at hSw); (have t0 := cell_later hSw cv; have t1 := cell_later hSw cs2); go_simp; try with_reducible rfl)
              try simp only [Act.put, List.setIfInBounds_toArray, List.set_cons_zero, List.set_cons_succ]
              refine wpAnyHE_takeP (i := 6) (oi := { dst := some 106, op := Op.move (Operand.tmp 16), type := 41, pos := "top.go:244", after := #[], guard := none }) (v := ?_) rfl (by kernel_rfl) (by kernel_rfl) (by kernel_rfl) (fun _ _ _ h => h) (Or.inl ⟨by rfl, ?_⟩) ?_
              rotate_left
              · (intro w _; go_simp; try with_reducible rfl)
              try simp only [Act.put, List.setIfInBounds_toArray, List.set_cons_zero, List.set_cons_succ]
              refine wpAnyHE_takeP (i := 7) (oi := { dst := some 107, op := Op.move (Operand.tmp 17), type := 3, pos := "top.go:244", after := #[], guard := none }) (v := ?_) rfl (by kernel_rfl) (by kernel_rfl) (by kernel_rfl) (fun _ _ _ h => h) (Or.inl ⟨by rfl, ?_⟩) ?_
              rotate_left
              · (intro w _; go_simp; try with_reducible rfl)
              try simp only [Act.put, List.setIfInBounds_toArray, List.set_cons_zero, List.set_cons_succ]
              refine wpAnyHE_takeP (i := 8) (oi := { dst := some 108, op := Op.indexAddr 41 (Operand.tmp 106) (Operand.tmp 107), type := 0, pos := "top.go:244", after := #[{ on := 6, ground := Ground.data }, { on := 7, ground := Ground.data }], guard := none }) (v := ?_) rfl (by kernel_rfl) (by kernel_rfl) (by kernel_rfl) (fun _ _ _ h => h) (Or.inl ⟨by rfl, ?_⟩) ?_
              rotate_left
              · (intro w _; go_simp; try with_reducible rfl)
              try simp only [Act.put, List.setIfInBounds_toArray, List.set_cons_zero, List.set_cons_succ]
              refine wpAnyHE_take (i := 9) (oi := { dst := some 109, op := Op.load 43 (Operand.tmp 108), type := 43, pos := "top.go:244", after := #[{ on := 8, ground := Ground.data }], guard := none }) (v := ?_) [[10, 9], [9], [9]] rfl (by kernel_rfl) (by kernel_rfl) (by kernel_rfl) (by kernel_rfl) (by kernel_rfl) (fun _ _ _ h => h) (Or.inl ⟨by rfl, ?_⟩) (by assumption) ?_
              rotate_left
              · (intro w hSw; (try dsimp only at hSw); (have t0 := cell_later hSw cv; have t1 := cell_later hSw cs2); go_simp; try with_reducible rfl)
              try simp only [Act.put, List.setIfInBounds_toArray, List.set_cons_zero, List.set_cons_succ]
              refine wpAnyHE_ready (rs := [10]) (by kernel_rfl) (by simp) ?_
              refine AllReadyE.cons (o := { dst := some 110, op := Op.buildSlice 41 1 #[(0, Operand.tmp 109)], type := 41, pos := "top.go:244", after := #[{ on := 9, ground := Ground.data }], guard := none }) rfl (fun KH hKH => ?_) AllReadyE.nil
              go_simp
              refine hKH.out _ _ ?_ (fun hNew => ?_)
              · (first | exact (Below.refl _ _).drew | exact hHeld.alloc hHeld.size _)
              clear hKH KH hHeld
              have hHeld := hNew
              clear hNew
              try simp only [Act.put, List.setIfInBounds_toArray, List.set_cons_zero, List.set_cons_succ]
              refine wpAnyHE_ready (rs := [11]) (by kernel_rfl) (by simp) ?_
              refine AllReadyE.consE (o := { dst := some 111, op := Op.call { callee := Callee.builtin Builtin.append, args := #[Operand.tmp 105, Operand.tmp 110], argTypes := #[41, 41] }, type := 41, pos := "top.go:244", after := #[{ on := 5, ground := Ground.data }, { on := 10, ground := Ground.data }], guard := none }) rfl (by kernel_rfl) (fun KH hKH => ?_) AllReadyE.nil
              refine step_append_one (enc := encRow) encRow_len _ _ 41 i3 _ rfl rfl Tryd.underlying41 hi3 hz0 hz1 hz2 rfl (by decide) (by decide) (HOW.out.later hHeld) (Below.refl _ _) (Nat.le_trans HPQ.out hHeld.size) HFL.out rfl (xa, xc, l2) ⟨wr.heap.size, 0, none⟩ 1 rfl HNW.out (one_row _) ?_
              intro v' w1 ho hb1 hgr hat
              have hat2 : ∀ q, v'.ownBlock = some q → (Value.slice fa rows.length fc).ownBlock = some q ∨ wr.heap.size ≤ q := fun q e => hat.imp (fun h => h.symm.trans e) fun h => by rw [h] at e; have h1 := Option.some.inj e; have h2 := hHeld.size; omega
              have hput := HDQ.out.put HVK.out HLL.out hHeld ho hgr hat2 HSX.out HBB2.out
              have HBX0 := hide (HBQ.out.trans ((hHeld.mono HPQ.out).trans hb1))
              have HVX := hide (HVQN.out v' hat2)
              have HKX := hide (HKN.out _ w1 v' hHeld hgr)
              have HBX := hide (HBX0.out.setCell (p := ⟨Pb, i, none⟩) (Nat.le_refl _) v')
              obtain ⟨na, nc, hv'⟩ := id ho.1
              subst hv'
              have s6 := hput.2.2
              have y6 := hput.2.1
              have HPUT := hide hput.1
              rw [HRL1.out] at HPUT HVX HKX HBX
              clear ho hb1 hgr hat hat2 hput cv cs2
              refine hKH.out _ _ ?_
              clear hKH KH
              try clear hHeld
              try simp only [Act.put, List.setIfInBounds_toArray, List.set_cons_zero, List.set_cons_succ]
              refine wpAnyHE_ready (rs := [12]) (by kernel_rfl) (by simp) ?_
              refine AllReadyE.consE (o := { dst := some 112, op := Op.indexAddr 36 (Operand.tmp 100) (Operand.tmp 101), type := 0, pos := "top.go:244", after := #[{ on := 0, ground := Ground.data }, { on := 1, ground := Ground.data }, { on := 0, ground := Ground.phase }, { on := 1, ground := Ground.phase }, { on := 2, ground := Ground.phase }, { on := 3, ground := Ground.phase }, { on := 4, ground := Ground.phase }, { on := 5, ground := Ground.phase }, { on := 6, ground := Ground.phase }, { on := 7, ground := Ground.phase }, { on := 8, ground := Ground.phase }, { on := 9, ground := Ground.phase }, { on := 10, ground := Ground.phase }, { on := 11, ground := Ground.phase }], guard := none }) rfl (by kernel_rfl) (fun KH hKH => ?_) AllReadyE.nil
              go_simp
              refine hKH.out _ _ ?_
              clear hKH KH
              try clear hHeld
              try simp only [Act.put, List.setIfInBounds_toArray, List.set_cons_zero, List.set_cons_succ]
              refine wpAnyHE_ready (rs := [13]) (by kernel_rfl) (by simp) ?_
              refine AllReadyE.consE (o := { dst := none, op := Op.store 41 (Operand.tmp 112) (Operand.tmp 111), type := 0, pos := "top.go:244", after := #[{ on := 12, ground := Ground.data }, { on := 11, ground := Ground.data }, { on := 11, ground := Ground.chain }, { on := 0, ground := Ground.phase }, { on := 1, ground := Ground.phase }, { on := 2, ground := Ground.phase }, { on := 3, ground := Ground.phase }, { on := 4, ground := Ground.phase }, { on := 5, ground := Ground.phase }, { on := 6, ground := Ground.phase }, { on := 7, ground := Ground.phase }, { on := 8, ground := Ground.phase }, { on := 9, ground := Ground.phase }, { on := 10, ground := Ground.phase }, { on := 11, ground := Ground.phase }], guard := none }) rfl (by kernel_rfl) (fun KH hKH => ?_) AllReadyE.nil
              go_simp
              refine hKH.out _ _ ?_
              clear hKH KH
              try clear hHeld
              try simp only [Act.put, List.setIfInBounds_toArray, List.set_cons_zero, List.set_cons_succ]
              refine wpAnyHE_done (by kernel_rfl) ?_ _
              refine NoPanic.normal ?_
              go_wp2
              go_roundw
              case rel => exact ⟨i + 1, _, _, by omega, by go_num, HPUT, HQL.out, HRN, HVX, HKX, HBX⟩
              case measure => (simp [intOf]; try omega)
            · obtain rfl : i = many := by omega
              have HRX : Hid (∀ (j : Nat) rows, qss[j]? = some rows → rowsL rows = given (rs.map RuleR.v) fold eb i (CS ++ [c]) j ∧ ∀ r ∈ rows, ∀ b o, r.1 = some ⟨b, o, none⟩ → Pb ≤ b) := fun j rows hj => by
                have h1 := HRQ.out j rows hj
                rw [if_pos (by have := (List.getElem?_eq_some_iff.1 hj).1; omega)] at h1
                exact h1
              have hcl3 : (CS ++ [c]).length ≤ a + (1 + m) := by rw [List.length_append]; simp; omega
              go_wp2
              go_roundw
              case rel => exact ⟨CS ++ [c], a + (1 + m), _, _, HCS.out, hcl3, by omega, by go_num, HDQ, hql, HRX, HBQ⟩
              case measure => (simp [intOf]; try omega)
        · rw [List.take_of_length_le (by omega)] at hcs
          have HGL := hide (HGA.out.later (by rw [HWA.out]; exact HBR.out))
          have HLR := hide HROW.out
          have HGI : Hid (∃ us, GRws 1 encS 9 wr Ob Ob us ((lk k).set k ((List.range 0).map fun n => tx (textP (OL n)))) ∧ (∀ u q, us[k]? = some u → u.ownBlock = some q → wr.heap.size ≤ q) ∧ ∀ j, j ≠ k → us[j]? = vs[j]?) := by
            have e : (lk k).set k ((List.range 0).map fun n => tx (textP (OL n))) = lk k := by
              rw [HLK.out]
              have : k = 0 ∨ k = 1 := by omega
              rcases this with rfl | rfl <;> rfl
            rw [e]
            exact ⟨vs, HGL.out, fun u q hu hq => by rw [HVN.out k (Nat.le_refl _) hlt] at hu; cases hu; simp [Value.ownBlock] at hq, fun _ _ => rfl⟩
          obtain ⟨wl, rfl⟩ : ∃ wl, wl = wr := ⟨_, rfl⟩
          go_wp2
          go_loopw [18] (fun iv wq => ∃ (i : Nat), i ≤ many ∧ iv = .int .i64 i ∧ Hid (∃ us, GRws 1 encS 9 wq Ob Ob us ((lk k).set k ((List.range i).map fun n => tx (textP (OL n)))) ∧ (∀ u q, us[k]? = some u → u.ownBlock = some q → wl.heap.size ≤ q) ∧ ∀ j, j ≠ k → us[j]? = vs[j]?) ∧ Hid (KeptBut (fun q => q = Ob) wl wq)) (fun iv _ => many - (intOf iv).toNat)
          case atStart => exact ⟨0, by omega, rfl, HGI, KeptBut.refl _ _⟩
          case round =>
            obtain ⟨i, hi, rfl, HGQ, HKQ⟩ := hrel
            obtain ⟨us, hus, huf, huo⟩ := HGQ.out
            have HUF := hide huf
            have HUO := hide huo
            have HGU := hide hus
            have hJO : w.heap.size ≠ Ob := by have := HOA.out; omega
            have HJP : Hid (w.heap.size < Pb ∧ Ob < Pb) := by have := HOA.out; exact ⟨by omega, this.2⟩
            have p1 := HKQ.out.cell ((HBR.out.cell (p := ⟨w.heap.size, 1, none⟩) HJP.out.1).trans (HBJA.out.get (j := 1) rfl)) hJO
            have p3 := HKQ.out.cell ((HBR.out.cell (p := ⟨w.heap.size, 3, none⟩) HJP.out.1).trans (HBJA.out.get (j := 3) rfl)) hJO
            have HPL : Hid (Pb ≤ wl.heap.size) := by have h1 := HBR.out.size; rw [HWA.out] at h1; exact h1
            have HQ0 : Hid (wl.heap.size ≤ wr.heap.size) := HKQ.out.size
            have HBW : Hid (Below w.heap.size w wr) := HBA.out.trans ((HBR.out.mono (by have := HJP.out; omega)).trans (HKQ.out.below (fun q hq => by have := HOA.out; omega) (by have := HJP.out; have := HPL.out; omega)))
            clear hus huf huo HGQ
            by_cases hlti : i < many
            · obtain ⟨v, rows, hv, hl, how, cv0⟩ := HD.out.rws.row (k := i) (by rw [hpl]; exact hlti)
              obtain ⟨fa, fc, rfl⟩ := id how.1
              have hrw := HROW.out i rows hl
              have hrl : rows.length = CS.length := by have h1 := congrArg List.length hrw.1; simpa [rowsL, given] using h1
              have hol := HOL.out CS eb i hlti hcs
              have cv := HKQ.out.cell cv0 (fun e => by have := HJP.out.2; simp at e; omega)
              have HS1 : Hid (Sl 1 encRow wr fa rows) := (how.sl encRow_len).kept HKQ.out fun b o e hq => by
                subst e
                have h1 := (how.lt b rfl).1
                have h2 := HJP.out.2
                omega
              have HS2 : Hid (∀ r ∈ rows, Sl 2 encP wr r.1 r.2.2) := fun r hr => (HD.out.row i rows r hl hr).1.kept HKQ.out fun b o e hq => by
                have h1 := hrw.2 r hr b o e
                have h2 := HJP.out.2
                omega
              have HNR := hide fun (w' : World) (hb : Below wr.heap.size wr w') => New_run fold fa fc rows w' hkf (by omega) (by rw [hrw.1]; have := hol.2.2; omega) (by rw [hrw.1]; exact given_rise) (HS1.out.later hb (Nat.le_refl _)) (fun r hr => (HS2.out r hr).later hb (Nat.le_refl _))
              rw [hrw.1] at HNR
              have HOK1 := hide hol.2.1
              have HOT1 := hide hol.1
              generalize srt (given (rs.map RuleR.v) fold eb many CS i).flatten = L2 at *
              have f1 : (0 : Int) ≤ (i : Int) ∧ (i : Int) < (many : Int) := by omega
              obtain ⟨f1, f2⟩ := f1
              clear hv hl how cv0 hrw hrl hol
              go_upto_region 30 with (fail)
              go_cut [19, 20] from 119 to 128 (fun v ev wc => ev = .nilIface ∧ Hid (RunV wc wr.heap.size fold L2 0 (fun q => wr.heap.size ≤ q ∧ q < wc.heap.size) v) ∧ Hid (Below wr.heap.size wr wc))
              case first =>
                refine wp_region_noPanic ?_
                refine wp_region_heldE_drew (S := (fun w' => Below wr.heap.size wr w')) (E := [11]) (by kernel_rfl) ?_ (fun hHeld => ?_)
                · (first | exact (Below.refl _ _).drew | exact hHeld.trans (b1.mono hHeld.size) | exact hHeld)
                try dsimp only [List.size_toArray, List.length_cons, List.length_nil, Nat.reduceAdd]
                refine wpAnyHE_takeP (i := 0) (oi := { dst := some 120, op := Op.fieldAddr 24 (Operand.tmp 3) 1, type := 0, pos := "top.go:248", after := #[], guard := none }) (v := ?_) rfl (by kernel_rfl) (by kernel_rfl) (by kernel_rfl) (fun _ _ _ h => h) (Or.inl ⟨by rfl, ?_⟩) ?_
                rotate_left
                · (intro w _; go_simp; try with_reducible rfl)
                try simp only [Act.put, List.setIfInBounds_toArray, List.set_cons_zero, List.set_cons_succ]
                refine wpAnyHE_take (i := 1) (oi := { dst := some 121, op := Op.load 3 (Operand.tmp 120), type := 3, pos := "top.go:248", after := #[{ on := 0, ground := Ground.data }], guard := none }) (v := ?_) [[1]] rfl (by kernel_rfl) (by kernel_rfl) (by kernel_rfl) (by kernel_rfl) (by kernel_rfl) (fun _ _ _ h => h) (Or.inl ⟨by rfl, ?_⟩) (by assumption) ?_
                rotate_left
                · (intro w hSw; (try dsimp only at hSw); (have t0 := cell_later hSw p1; have t1 := cell_later hSw cv); go_simp; try with_reducible rfl)
                try simp only [Act.put, List.setIfInBounds_toArray, List.set_cons_zero, List.set_cons_succ]
                refine wpAnyHE_takeP (i := 2) (oi := { dst := some 122, op := Op.move (Operand.tmp 12), type := 36, pos := "top.go:248", after := #[], guard := none }) (v := ?_) rfl (by kernel_rfl) (by kernel_rfl) (by kernel_rfl) (fun _ _ _ h => h) (Or.inl ⟨by rfl, ?_⟩) ?_
                rotate_left
                · (intro w _; go_simp; try with_reducible rfl)
                try simp only [Act.put, List.setIfInBounds_toArray, List.set_cons_zero, List.set_cons_succ]
                refine wpAnyHE_takeP (i := 3) (oi := { dst := some 123, op := Op.move (Operand.tmp 18), type := 3, pos := "top.go:248", after := #[], guard := none }) (v := ?_) rfl (by kernel_rfl) (by kernel_rfl) (by kernel_rfl) (fun _ _ _ h => h) (Or.inl ⟨by rfl, ?_⟩) ?_
                rotate_left
                · (intro w _; go_simp; try with_reducible rfl)
                try simp only [Act.put, List.setIfInBounds_toArray, List.set_cons_zero, List.set_cons_succ]
                refine wpAnyHE_takeP (i := 4) (oi := { dst := some 124, op := Op.indexAddr 36 (Operand.tmp 122) (Operand.tmp 123), type := 0, pos := "top.go:248", after := #[{ on := 2, ground := Ground.data }, { on := 3, ground := Ground.data }], guard := none }) (v := ?_) rfl (by kernel_rfl) (by kernel_rfl) (by kernel_rfl) (fun _ _ _ h => h) (Or.inl ⟨by rfl, ?_⟩) ?_
                rotate_left
                · (intro w _; go_simp; try with_reducible rfl)
                try simp only [Act.put, List.setIfInBounds_toArray, List.set_cons_zero, List.set_cons_succ]
                refine wpAnyHE_take (i := 5) (oi := { dst := some 125, op := Op.load 41 (Operand.tmp 124), type := 41, pos := "top.go:248", after := #[{ on := 4, ground := Ground.data }], guard := none }) (v := ?_) [[5]] rfl (by kernel_rfl) (by kernel_rfl) (by kernel_rfl) (by kernel_rfl) (by kernel_rfl) (fun _ _ _ h => h) (Or.inl ⟨by rfl, ?_⟩) (by assumption) ?_
                rotate_left
                · (intro w hSw; (try dsimp only at hSw); (have t0 := cell_later hSw p1; have t1 := cell_later hSw cv); go_simp; try with_reducible rfl)
                try simp only [Act.put, List.setIfInBounds_toArray, List.set_cons_zero, List.set_cons_succ]
                refine wpAnyHE_ready (rs := [6]) (by kernel_rfl) (by simp) ?_
                refine AllReadyE.cons (o := { dst := some 126, op := Op.call { callee := Callee.value (Operand.func 5), args := #[Operand.tmp 121, Operand.tmp 125], argTypes := #[3, 41] }, type := 29, pos := "top.go:248", after := #[{ on := 1, ground := Ground.data }, { on := 5, ground := Ground.data }], guard := none }) rfl (fun KH hKH => ?_) AllReadyE.nil
                go_simp
                (go_at_call 5; refine (HNR.out _ hHeld).mono ?_; rintro e w1 ⟨⟨g1, rfl, hr1⟩, b1⟩)
                try go_wp2_with fail
                refine hKH.out _ _ ?_ (fun hNew => ?_)
                · (first | exact (Below.refl _ _).drew | exact hHeld.trans (b1.mono hHeld.size) | exact hHeld)
                clear hKH KH hHeld
                have hHeld := hNew
                clear hNew
                try simp only [Act.put, List.setIfInBounds_toArray, List.set_cons_zero, List.set_cons_succ]
                refine wpAnyHE_takeP (i := 7) (oi := { dst := some 119, op := Op.move (Operand.tmp 126), type := 29, pos := "top.go:248", after := #[{ on := 6, ground := Ground.data }], guard := none }) (v := ?_) rfl (by kernel_rfl) (by kernel_rfl) (by kernel_rfl) (fun _ _ _ h => h) (Or.inl ⟨by rfl, ?_⟩) ?_
                rotate_left
                · (intro w _; go_simp; try with_reducible rfl)
                try simp only [Act.put, List.setIfInBounds_toArray, List.set_cons_zero, List.set_cons_succ]
                refine wpAnyHE_takeP (i := 8) (oi := { dst := some 127, op := Op.extract (Operand.tmp 119) 0, type := 26, pos := "top.go:248", after := #[{ on := 7, ground := Ground.data }], guard := none }) (v := ?_) rfl (by kernel_rfl) (by kernel_rfl) (by kernel_rfl) (fun _ _ _ h => h) (Or.inl ⟨by rfl, ?_⟩) ?_
                rotate_left
                · (intro w _; go_simp; try with_reducible rfl)
                try simp only [Act.put, List.setIfInBounds_toArray, List.set_cons_zero, List.set_cons_succ]
                refine wpAnyHE_takeP (i := 9) (oi := { dst := some 128, op := Op.extract (Operand.tmp 119) 1, type := 28, pos := "top.go:248", after := #[{ on := 7, ground := Ground.data }, { on := 10, ground := Ground.gcOnly Departure.lateStores }], guard := none }) (v := ?_) rfl (by kernel_rfl) (by kernel_rfl) (by kernel_rfl) (fun _ _ _ h => h) (Or.inl ⟨by rfl, ?_⟩) ?_
                rotate_left
                · (intro w _; go_simp; try with_reducible rfl)
                try simp only [Act.put, List.setIfInBounds_toArray, List.set_cons_zero, List.set_cons_succ]
                refine wpAnyHE_takeP (i := 10) (oi := { dst := some 19, op := Op.assign (Operand.tmp 127), type := 26, pos := "top.go:248", after := #[{ on := 8, ground := Ground.data }, { on := 6, ground := Ground.chain }, { on := 0, ground := Ground.phase }, { on := 1, ground := Ground.phase }, { on := 2, ground := Ground.phase }, { on := 3, ground := Ground.phase }, { on := 4, ground := Ground.phase }, { on := 5, ground := Ground.phase }, { on := 6, ground := Ground.phase }, { on := 7, ground := Ground.phase }, { on := 8, ground := Ground.phase }, { on := 9, ground := Ground.textOnly Departure.lateStores }], guard := none }) (v := ?_) rfl (by kernel_rfl) (by kernel_rfl) (by kernel_rfl) (fun _ _ _ h => h) (Or.inl ⟨by rfl, ?_⟩) ?_
                rotate_left
                · (intro w _; go_simp; try with_reducible rfl)
                try simp only [Act.put, List.setIfInBounds_toArray, List.set_cons_zero, List.set_cons_succ]
                refine wpAnyHE_ready (rs := [11]) (by kernel_rfl) (by simp) ?_
                refine AllReadyE.consE (o := { dst := some 20, op := Op.assign (Operand.tmp 128), type := 28, pos := "top.go:248", after := #[{ on := 9, ground := Ground.data }, { on := 10, ground := Ground.chain }, { on := 0, ground := Ground.phase }, { on := 1, ground := Ground.phase }, { on := 2, ground := Ground.phase }, { on := 3, ground := Ground.phase }, { on := 4, ground := Ground.phase }, { on := 5, ground := Ground.phase }, { on := 6, ground := Ground.phase }, { on := 7, ground := Ground.phase }, { on := 8, ground := Ground.phase }, { on := 9, ground := Ground.phase }, { on := 10, ground := Ground.phase }], guard := none }) rfl (by kernel_rfl) (fun KH hKH => ?_) AllReadyE.nil
                have HBX := hide hHeld
                go_simp
                refine hKH.out _ _ ?_
                clear hKH KH
                try clear hHeld
                try simp only [Act.put, List.setIfInBounds_toArray, List.set_cons_zero, List.set_cons_succ]
                refine wpAnyHE_done (by kernel_rfl) ?_ _
                refine NoPanic.normal ?_
                go_wp2
                go_meet
                exact ⟨rfl, hr1, HBX⟩
              case rest =>
              obtain ⟨rfl, HRF, HBC⟩ := hcut
              clear HNR
              obtain ⟨g1, rfl⟩ := HRF.out.ptr
              have hgl : (groups fold L2).length ≤ 100000 := Nat.le_trans (groups_length _ _) HOK1.out.1
              have HST := hide (Step_run 1048576 wc HBC.out.size HRF.out (by have := HOK1.out.1; omega) (by decide))
              rw [show min (0 + (1048576 : Int).toNat) (groups fold L2).length = (groups fold L2).length by omega] at HST
              go_wp2_with fail
              refine HST.out.mono ?_
              rintro e wf ⟨⟨rfl, hf2⟩, kF⟩
              have bF : Below wr.heap.size wc wf := kF.below (fun q hq => hq.1) HBC.out.size
              have HBF := hide (HBC.out.trans bF)
              have HRF2 := hide hf2
              clear HST hf2 kF bF HRF HBC
              have HOU := hide fun (w' : World) (hb : Below wf.heap.size wf w') => Out_run w' (HGT.out.later (HBW.out.trans ((HBF.out.trans (hb.mono HBF.out.size)).mono HBW.out.size)) (Nat.le_refl _)) (HRF2.out.later hb) HOK1.out
              rw [List.take_length, HOT1.out] at HOU
              have HGF := hide (HGU.out.later HBF.out)
              have hlk2 : (lk k).length = 2 := by rw [HLK.out]; simp; omega
              obtain ⟨u, ts, hu, hts, hou, cu⟩ := HGF.out.row (k := k) (by rw [List.length_set, hlk2]; exact hlt)
              rw [List.getElem?_set_self (by rw [hlk2]; exact hlt)] at hts
              obtain rfl := Option.some.inj hts
              go_upto_region 34 with (fail)
              have HRS := hide (range_map_succ (fun n => tx (textP (OL n))) i)
              have hrl : ((List.range i).map fun n => tx (textP (OL n))).length = i := by simp
              generalize (List.range i).map (fun n => tx (textP (OL n))) = ts at *
              generalize tx (textP (OL i)) = tk at *
              obtain ⟨xa, xc, rfl⟩ := id hou.1
              have HOW := hide hou
              have HFL : Hid (ts.length + 1 ≤ 1000000000) := by show _ ≤ _; omega
              have HUK := hide hu
              have HQ1 : Hid (wl.heap.size ≤ wf.heap.size) := by have h1 := HBF.out.size; have h2 := HQ0.out; show _ ≤ _; omega
              have HOB : Hid (Ob ≤ wf.heap.size) := Nat.le_of_lt HGF.out.bk.lt
              have HKF := hide (HKQ.out.trans (KeptBut.of_below HBF.out (Nat.le_refl _)))
              have HL1 : Hid ((ts ++ [tk]).length = ts.length + 1) := by show _ = _; simp
              have HKN : Hid (∀ (A w1 : World) (v' : Value), Below wf.heap.size wf A → A.grownBy w1 (Value.slice xa ts.length xc).ownBlock → KeptBut (fun q => q = Ob) wl (w1.setCell ⟨Ob, k, none⟩ v')) := fun A w1 v' hA hg =>
                ((HKF.out.trans (KeptBut.of_below hA (Nat.le_refl _))).grownTo hg fun q e => .inr (HUF.out _ q HUK.out e)).setCell (p := ⟨Ob, k, none⟩) rfl v'
              have HUN : Hid (∀ v' : Value, (∀ q, v'.ownBlock = some q → (Value.slice xa ts.length xc).ownBlock = some q ∨ wf.heap.size ≤ q) → (∀ u q, (us.set k v')[k]? = some u → u.ownBlock = some q → wl.heap.size ≤ q) ∧ ∀ j, j ≠ k → (us.set k v')[j]? = vs[j]?) := fun v' h => by
                refine ⟨fun u q hu hq => ?_, fun j hj => by rw [List.getElem?_set_ne (fun e => hj e.symm)]; exact HUO.out j hj⟩
                rw [List.getElem?_set_self (List.getElem?_eq_some_iff.1 HUK.out).1] at hu
                cases hu
                rcases h q hq with h1 | h1
                · exact HUF.out _ q HUK.out h1
                · have := HQ1.out; omega
              have f3 : (0 : Int) ≤ (k : Int) ∧ (k : Int) < 2 := by omega
              obtain ⟨f3, f4⟩ := f3
              clear hu hou hrl hts hgl
              refine wp_region_noPanic ?_
              refine wp_region_heldE_drew (S := (fun w' => Below wf.heap.size wf w')) (E := [7, 8, 9]) (by kernel_rfl) ?_ (fun hHeld => ?_)
              · (first | exact (Below.refl _ _).drew | exact hHeld.trans (b1.mono hHeld.size) | exact hHeld.alloc hHeld.size _ | exact hHeld)
              try dsimp only [List.size_toArray, List.length_cons, List.length_nil, Nat.reduceAdd]
              refine wpAnyHE_takeP (i := 0) (oi := { dst := some 133, op := Op.move (Operand.tmp 11), type := 3, pos := "top.go:253", after := #[], guard := none }) (v := ?_) rfl (by kernel_rfl) (by kernel_rfl) (by kernel_rfl) (fun _ _ _ h => h) (Or.inl ⟨by rfl, ?_⟩) ?_
              rotate_left
              · (intro w _; go_simp; try with_reducible rfl)
              try simp only [Act.put, List.setIfInBounds_toArray, List.set_cons_zero, List.set_cons_succ]
              refine wpAnyHE_takeP (i := 1) (oi := { dst := some 134, op := Op.move (Operand.tmp 11), type := 3, pos := "top.go:253", after := #[], guard := none }) (v := ?_) rfl (by kernel_rfl) (by kernel_rfl) (by kernel_rfl) (fun _ _ _ h => h) (Or.inl ⟨by rfl, ?_⟩) ?_
              rotate_left
              · (intro w _; go_simp; try with_reducible rfl)
              try simp only [Act.put, List.setIfInBounds_toArray, List.set_cons_zero, List.set_cons_succ]
              refine wpAnyHE_takeP (i := 2) (oi := { dst := some 135, op := Op.indexAddr 35 (Operand.tmp 10) (Operand.tmp 134), type := 0, pos := "top.go:253", after := #[{ on := 1, ground := Ground.data }], guard := none }) (v := ?_) rfl (by kernel_rfl) (by kernel_rfl) (by kernel_rfl) (fun _ _ _ h => h) (Or.inl ⟨by rfl, ?_⟩) ?_
              rotate_left
              · (intro w _; go_simp; try with_reducible rfl)
              try simp only [Act.put, List.setIfInBounds_toArray, List.set_cons_zero, List.set_cons_succ]
              refine wpAnyHE_take (i := 3) (oi := { dst := some 136, op := Op.load 25 (Operand.tmp 135), type := 25, pos := "top.go:253", after := #[{ on := 2, ground := Ground.data }], guard := none }) (v := ?_) [[3], [3], [3]] rfl (by kernel_rfl) (by kernel_rfl) (by kernel_rfl) (by kernel_rfl) (by kernel_rfl) (fun _ _ _ h => h) (Or.inl ⟨by rfl, ?_⟩) (by assumption) ?_
              rotate_left
              · (intro w hSw; (try dsimp only at hSw); (have t0 := cell_later hSw cu); go_simp; try with_reducible rfl)
              try simp only [Act.put, List.setIfInBounds_toArray, List.set_cons_zero, List.set_cons_succ]
              refine wpAnyHE_takeP (i := 4) (oi := { dst := some 137, op := Op.move (Operand.tmp 19), type := 26, pos := "top.go:253", after := #[], guard := none }) (v := ?_) rfl (by kernel_rfl) (by kernel_rfl) (by kernel_rfl) (fun _ _ _ h => h) (Or.inl ⟨by rfl, ?_⟩) ?_
              rotate_left
              · (intro w _; go_simp; try with_reducible rfl)
              try simp only [Act.put, List.setIfInBounds_toArray, List.set_cons_zero, List.set_cons_succ]
              refine wpAnyHE_ready (rs := [5]) (by kernel_rfl) (by simp) ?_
              refine AllReadyE.cons (o := { dst := some 138, op := Op.call { callee := Callee.value (Operand.func 6), args := #[Operand.tmp 137], argTypes := #[26] }, type := 9, pos := "top.go:253", after := #[{ on := 4, ground := Ground.data }], guard := none }) rfl (fun KH hKH => ?_) AllReadyE.nil
              go_simp
              (go_at_call 6; refine (HOU.out _ hHeld).mono ?_; rintro e w1 ⟨rfl, b1⟩)
              try go_wp2_with fail
              refine hKH.out _ _ ?_ (fun hNew => ?_)
              · (first | exact (Below.refl _ _).drew | exact hHeld.trans (b1.mono hHeld.size) | exact hHeld.alloc hHeld.size _ | exact hHeld)
              clear hKH KH hHeld
              have hHeld := hNew
              clear hNew
              try simp only [Act.put, List.setIfInBounds_toArray, List.set_cons_zero, List.set_cons_succ]
              refine wpAnyHE_ready (rs := [6]) (by kernel_rfl) (by simp) ?_
              refine AllReadyE.cons (o := { dst := some 139, op := Op.buildSlice 25 1 #[(0, Operand.tmp 138)], type := 25, pos := "top.go:253", after := #[{ on := 5, ground := Ground.data }], guard := none }) rfl (fun KH hKH => ?_) AllReadyE.nil
              go_simp
              refine hKH.out _ _ ?_ (fun hNew => ?_)
              · (first | exact (Below.refl _ _).drew | exact hHeld.trans (b1.mono hHeld.size) | exact hHeld.alloc hHeld.size _ | exact hHeld)
              clear hKH KH hHeld
              have hHeld := hNew
              clear hNew
              try simp only [Act.put, List.setIfInBounds_toArray, List.set_cons_zero, List.set_cons_succ]
              refine wpAnyHE_ready (rs := [7]) (by kernel_rfl) (by simp) ?_
              refine AllReadyE.consE (o := { dst := some 140, op := Op.call { callee := Callee.builtin Builtin.append, args := #[Operand.tmp 136, Operand.tmp 139], argTypes := #[25, 25] }, type := 25, pos := "top.go:253", after := #[{ on := 3, ground := Ground.data }, { on := 6, ground := Ground.data }, { on := 5, ground := Ground.chain }], guard := none }) rfl (by kernel_rfl) (fun KH hKH => ?_) AllReadyE.nil
              refine step_append_one (enc := encS) encS_len _ _ 25 i1 _ rfl rfl Tryd.underlying25 hi1 hy0 hy1 hy2 rfl (by decide) (by decide) (HOW.out.later hHeld) (Below.refl _ _) (Nat.le_trans HOB.out hHeld.size) HFL.out rfl tk ⟨w1.heap.size, 0, none⟩ 1 rfl (news_at rfl rfl) (one_str _) ?_
              intro v' w2 ho hb2 hgr hat
              have hat2 : ∀ q, v'.ownBlock = some q → (Value.slice xa ts.length xc).ownBlock = some q ∨ wf.heap.size ≤ q := fun q e => hat.imp (fun h => h.symm.trans e) fun h => by rw [h] at e; have h1 := Option.some.inj e; have h2 := hHeld.size; omega
              have hput := HGF.out.put (l := ts) HUK.out hHeld hHeld.size ho hgr hat2
              have HVX := hide (HUN.out v' hat2)
              have HKX := hide (HKN.out _ w2 v' hHeld hgr)
              obtain ⟨na, nc, hv'⟩ := id ho.1
              subst hv'
              have s6 := hput.2.2
              have y6 := hput.2.1
              have hputs := hput.1
              rw [List.set_set] at hputs
              have HPUT := hide hputs
              rw [HL1.out] at HPUT HVX HKX
              clear ho hb2 hgr hat hat2 hput hputs cu b1
              refine hKH.out _ _ ?_
              clear hKH KH
              try clear hHeld
              try simp only [Act.put, List.setIfInBounds_toArray, List.set_cons_zero, List.set_cons_succ]
              refine wpAnyHE_ready (rs := [8]) (by kernel_rfl) (by simp) ?_
              refine AllReadyE.consE (o := { dst := some 141, op := Op.indexAddr 35 (Operand.tmp 10) (Operand.tmp 133), type := 0, pos := "top.go:253", after := #[{ on := 0, ground := Ground.data }, { on := 0, ground := Ground.phase }, { on := 1, ground := Ground.phase }, { on := 2, ground := Ground.phase }, { on := 3, ground := Ground.phase }, { on := 4, ground := Ground.phase }, { on := 5, ground := Ground.phase }, { on := 6, ground := Ground.phase }, { on := 7, ground := Ground.phase }], guard := none }) rfl (by kernel_rfl) (fun KH hKH => ?_) AllReadyE.nil
              go_simp
              refine hKH.out _ _ ?_
              clear hKH KH
              try clear hHeld
              try simp only [Act.put, List.setIfInBounds_toArray, List.set_cons_zero, List.set_cons_succ]
              refine wpAnyHE_ready (rs := [9]) (by kernel_rfl) (by simp) ?_
              refine AllReadyE.consE (o := { dst := none, op := Op.store 25 (Operand.tmp 141) (Operand.tmp 140), type := 0, pos := "top.go:253", after := #[{ on := 8, ground := Ground.data }, { on := 7, ground := Ground.data }, { on := 7, ground := Ground.chain }, { on := 0, ground := Ground.phase }, { on := 1, ground := Ground.phase }, { on := 2, ground := Ground.phase }, { on := 3, ground := Ground.phase }, { on := 4, ground := Ground.phase }, { on := 5, ground := Ground.phase }, { on := 6, ground := Ground.phase }, { on := 7, ground := Ground.phase }], guard := none }) rfl (by kernel_rfl) (fun KH hKH => ?_) AllReadyE.nil
              go_simp
              refine hKH.out _ _ ?_
              clear hKH KH
              try clear hHeld
              try simp only [Act.put, List.setIfInBounds_toArray, List.set_cons_zero, List.set_cons_succ]
              refine wpAnyHE_done (by kernel_rfl) ?_ _
              refine NoPanic.normal ?_
              go_wp2
              go_roundw
              case rel => exact ⟨i + 1, by omega, by go_num, by rw [HRS.out]; exact ⟨_, HPUT, HVX⟩, HKX⟩
              case measure => (simp [intOf]; try omega)
            · obtain rfl : i = many := by omega
              have HGN : Hid (GRws 1 encS 9 wr Ob Ob us (lk (k + 1))) := by
                have h := HGU.out
                rw [HPT.out] at h
                have e : (lk k).set k PT = lk (k + 1) := by
                  rw [HLK.out]
                  have : k = 0 ∨ k = 1 := by omega
                  rcases this with rfl | rfl <;> rfl
                rw [e] at h
                exact h
              have HVN2 : Hid (∀ j, k + 1 ≤ j → j < 2 → us[j]? = some (.slice none 0 0)) := fun j h1 h2 => by
                rw [HUO.out j (by omega)]
                exact HVN.out j (by omega) h2
              have HBN : Hid (Bk wr w.heap.size [.slice ro rs.length rc, .int .i64 fold, .bool eb, .int .i64 i]) := (HBJA.out.later (by rw [HWA.out]; exact HBR.out)).kept HKQ.out hJO
              go_wp2
              go_roundw
              case rel => exact ⟨k + 1, eb, us, by omega, by go_num, HGN, HVN2, HBN, HBW⟩
              case measure => (simp [intOf]; try omega)
    · obtain rfl : k = 2 := by omega
      have hl2 : lk 2 = [PT, PT] := by rw [HLK.out]; rfl
      have hgo := HGO.out
      rw [hl2] at hgo
      obtain ⟨u0, t0, hu0, ht0, ho0, c0⟩ := hgo.row (k := 0) (by simp)
      obtain ⟨u1, t1, hu1, ht1, ho1, c1⟩ := hgo.row (k := 1) (by simp)
      obtain rfl := Option.some.inj (show some PT = some t0 from ht0)
      obtain rfl := Option.some.inj (show some PT = some t1 from ht1)
      obtain ⟨xa, xc, rfl⟩ := id ho0.1
      obtain ⟨ya, yc, rfl⟩ := id ho1.1
      have hpl2 : PT.length ≤ 1000000000 := by have := HPTL.out; omega
      have HST := hide fun w' (hb : Below wr.heap.size wr w') => SameTexts_refl xa ya xc yc PT w' hpl2 ((ho0.later hb).sl encS_len) ((ho1.later hb).sl encS_len)
      clear hu0 hu1 ht0 ht1 ho0 ho1 hgo hl2 hpl2
      go_wp2_with fail
      refine (HST.out _ (Below.refl _ _)).mono ?_
      rintro e w10 ⟨rfl, b10⟩
      have HBL2 := hide (HB.out.trans (b10.mono HB.out.size))
      clear c0 c1 HST b10
      go_wp2
      go_ret
      exact ⟨rfl, HBL2.out⟩
end Go.Proofs.YtjkggijkccbcpaaDoor
