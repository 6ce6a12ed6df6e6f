/- TopPlain: the law's walk. -/
import Derived.Test.YtafogaopccajaaaDoorTSlicesW
import Derived.Test.YtafogaopccajaaaDoorRefPlain
set_option linter.unusedSimpArgs false
set_option linter.unusedVariables false
namespace Go.Proofs.YtafogaopccajaaaDoor
open Go.RowKit

/-- a job's slice, folded, is what the job is there -/
theorem slice_out {fold : Int} {early : Bool} {many k : Nat} {rs : List RuleV} {lines : List ByteArray} {l : List Pr} (hk : k < many) (hl : (cutP fold early many (madeL rs fold lines))[k]? = some l) : groups fold (srt ([l] : List (List Pr)).flatten) = outL rs fold many lines k := by
  have h1 := cutP_grp hk hl
  have h2 := grp_filter (inSlice_key many k) fold (madeL rs fold lines)
  unfold outL
  rw [h2, ← h1]
  simp [grp]
set_option maxRecDepth 100000 in
set_option maxHeartbeats 4000000 in
theorem TopPlain_walk (ro : Option Addr) (rc : Nat) (rs : List RuleR) (fold slices : Int) (early : Bool) (lo : Option Addr) (lc : Nat) (lines : List ByteArray) (w : World) (hgt : GT w) (hj : JobIn w ro rc rs fold slices) (hll : lines.length ≤ maxLen) (hs : Sl 1 encS w lo lines) (hn : lo = none → lc = 0) :
    Calls Tryd.prog 8 #[.agg #[.slice ro rs.length rc, .int .i64 fold, .bool early, .int .i64 slices], .slice lo lines.length lc] w fun e w' => e = .returned (.bool true) ∧ Below w.heap.size w w' := by
  have hg : GM w := hgt.gm
  have HGT := hide hgt
  clear hgt
  obtain ⟨i1, hi1, hy0, hy1, hy2⟩ := info_parts infoStrM
  obtain ⟨W1, hW1⟩ : ∃ W, W = w.alloc (.cells #[.slice ro rs.length rc, .int .i64 fold, .bool early, .int .i64 slices] 24) := ⟨_, rfl⟩
  have hb1 : Below w.heap.size w W1 := by rw [hW1]; exact (Below.refl _ _).alloc (Nat.le_refl _) _
  have hbj : Bk W1 w.heap.size [.slice ro rs.length rc, .int .i64 fold, .bool early, .int .i64 slices] := by rw [hW1]; exact Bk.new rfl
  have hrl := hj.len
  unfold maxLen at hrl hll
  have HJ := hide hj
  have HG := hide hg
  have HS := hide hs
  have HN := hide hn
  have HB := hide hb1
  have HBJ := hide hbj
  have HW1 := hide hW1
  have HRE := hide fun w' (hb : Below w.heap.size w w') => ready_any w' (hg.later hb (Nat.le_refl _))
  have HLJ := hide fun w' (hb : Below w.heap.size w w') => LightJob_any ro rc rs fold slices early w' hj.len (hj.sl.later hb (Nat.le_refl _)) fun r hr => by obtain ⟨d, h⟩ := hj.at_ r hr; exact ⟨d, h.later hb (Nat.le_refl _)⟩
  have HJC := hide fun w' (hb : Below w.heap.size w w') => jobCheck_any ro rc rs fold slices early w' hj.len (hj.sl.later hb (Nat.le_refl _)) fun r hr => by obtain ⟨d, h⟩ := hj.at_ r hr; exact ⟨d, h.later hb (Nat.le_refl _)⟩
  have HLT := hide fun w' (hb : Below w.heap.size w w') => LightTexts_any lo lc lines 60 120 w' (by unfold maxLen; omega) (hs.later hb (Nat.le_refl _))
  unfold SomeB at HLJ
  clear hb1 hbj hW1 hg hj hs hn
  go_enter Tryd.func8, Tryd.ntmps8
  go_upto_region 1 with (fail)
  rw [← HW1.out]
  clear HW1
  go_wp2_with fail
  refine (HRE.out _ HB.out).mono ?_
  rintro e w2 ⟨rfl, b2⟩
  replace HB := hide (HB.out.trans (b2.mono HB.out.size))
  replace HBJ := hide (HBJ.out.later b2)
  clear b2 HRE
  have j0 := HBJ.out.get (j := 0) rfl
  have j1 := HBJ.out.get (j := 1) rfl
  have j2 := HBJ.out.get (j := 2) rfl
  have j3 := HBJ.out.get (j := 3) rfl
  go_wp2_with fail
  refine (HLJ.out _ HB.out).mono ?_
  rintro e w3 ⟨⟨b, rfl⟩, b3⟩
  replace j0 := cell_later b3 j0
  replace j1 := cell_later b3 j1
  replace j2 := cell_later b3 j2
  replace j3 := cell_later b3 j3
  replace HB := hide (HB.out.trans (b3.mono HB.out.size))
  replace HBJ := hide (HBJ.out.later b3)
  clear b3 HLJ
  cases b with
  | false =>
    clear HLT HJC
    go_wp2
    go_ret
    exact ⟨rfl, HB.out⟩
  | true =>
  obtain ⟨lt, hlt⟩ : ∃ lt, lightTexts lines 60 120 = lt := ⟨_, rfl⟩
  have HLTX := hide hlt
  rw [hlt] at HLT
  clear hlt
  go_wp2_with fail
  refine (HLT.out _ HB.out).mono ?_
  rintro e w3' ⟨rfl, rfl⟩
  clear HLT
  cases lt with
  | false =>
    clear HJC
    go_wp2
    go_ret
    exact ⟨rfl, HB.out⟩
  | true =>
  obtain ⟨jf, hjf⟩ : ∃ jf, jobF (rs.map RuleR.v) fold slices = jf := ⟨_, rfl⟩
  have HJF := hide hjf
  rw [hjf] at HJC
  clear hjf
  go_wp2_with fail
  refine (HJC.out _ HB.out).mono ?_
  rintro e w4 ⟨rfl, b4⟩
  replace j0 := cell_later b4 j0
  replace j1 := cell_later b4 j1
  replace j2 := cell_later b4 j2
  replace j3 := cell_later b4 j3
  replace HB := hide (HB.out.trans (b4.mono HB.out.size))
  replace HBJ := hide (HBJ.out.later b4)
  clear b4 HJC
  have HJL : Hid (w.heap.size < w4.heap.size) := HBJ.out.lt
  by_cases hj0 : jf = 0
  case neg =>
    rw [errV_pos hj0]
    go_wp2
    go_ret
    exact ⟨rfl, HB.out⟩
  subst hj0
  rw [errV_zero]
  have HOK := hide (JobOk.of HJF.out)
  obtain ⟨many, hmany⟩ : ∃ many : Nat, slices = (many : Int) := ⟨slices.toNat, by have := HOK.out.slices; omega⟩
  subst hmany
  have hm4 : 1 ≤ many ∧ many ≤ 4 := by have := HOK.out.slices; omega
  have hrn : rs.length ≤ 4 := HOK.out.many.2
  have hl60 : lines.length ≤ 60 := by have := (lightTexts_of HLTX.out).1; omega
  have HLS : Hid (∀ l ∈ lines, l.size ≤ 500) := fun l hl => by have := (lightTexts_of HLTX.out).2 l hl; omega
  obtain ⟨d, hd⟩ := rules_deep HJ.out.at_
  have HJA := hide fun (w' : World) (hb : Below w.heap.size w w') => (⟨HJ.out.sl.later hb (Nat.le_refl _), fun r hr => (hd r hr).later hb (Nat.le_refl _)⟩ : JobAt w' ro rs d)
  clear hd
  have HNW := hide (MNew_any ro rc rs fold many early d lo lc lines w4 (HJA.out _ HB.out) (by unfold maxLen; omega) (by omega) (HS.out.later HB.out (Nat.le_refl _)) HN.out HJF.out hl60)
  go_wp2_with fail
  refine HNW.out.mono ?_
  rintro e w5 ⟨⟨g, la, lc', rfl, hr5⟩, b5⟩
  have HR5 := hide hr5
  have HB4 := hide HB.out.size
  replace j0 := cell_later b5 j0
  replace j1 := cell_later b5 j1
  replace j2 := cell_later b5 j2
  replace j3 := cell_later b5 j3
  replace HB := hide (HB.out.trans (b5.mono HB.out.size))
  replace HBJ := hide (HBJ.out.later b5)
  have HW45 := hide b5.size
  clear b5 hr5 HNW
  have HST := hide (MStep_any d 60 w5 HW45.out (fun w' hb => HG.out.later (HB.out.trans (hb.mono HB4.out)) (Nat.le_refl _)) (fun w' hb => HJA.out w' (HB.out.trans (hb.mono HB4.out))) HOK.out HR5.out HLS.out (by omega) (by decide))
  rw [show min (0 + (60 : Int).toNat) lines.length = lines.length by omega] at HST
  go_wp2_with fail
  refine HST.out.mono ?_
  rintro e w6 ⟨va6, ⟨rfl, hr6, hv6⟩, k6⟩
  have hgl : w4.heap.size ≤ g := HR5.out.lo
  have b6 : Below w4.heap.size w5 w6 := k6.below (fun q hq => by
    rcases hq with rfl | hq
    · exact hgl
    · simp [Value.ownBlock] at hq) HW45.out
  have hjl := HJL.out
  have HB6 := hide (HB.out.trans (b6.mono HB4.out))
  have hq0 := (b6.cell (p := ⟨w.heap.size, 0, none⟩) hjl).trans j0
  have hq1 := (b6.cell (p := ⟨w.heap.size, 1, none⟩) hjl).trans j1
  have hq2 := (b6.cell (p := ⟨w.heap.size, 2, none⟩) hjl).trans j2
  have hq3 := (b6.cell (p := ⟨w.heap.size, 3, none⟩) hjl).trans j3
  have HVL := hide (by have := madeL_len (rs.map RuleR.v) fold (by rw [List.length_map]; exact HOK.out.many.2) lines HLS.out; omega : (madeL (rs.map RuleR.v) fold lines).length ≤ 120480)
  have HVK := hide (madeL_ok (rs := rs.map RuleR.v) (by intro r hr; obtain ⟨x, hx, rfl⟩ := List.mem_map.1 hr; exact HOK.out.ok x hx) fold HLS.out)
  have HSL := hide (MSlices_any w6 hr6 ⟨hm4.1, by omega⟩ (by rw [List.take_length]; have := HVL.out; omega) (by rw [List.take_length]; intro p hp; have := (HVK.out p hp).1; unfold maxLen; omega))
  rw [List.take_length] at HSL
  clear HB HBJ j0 j1 j2 j3 HR5 HST k6 hr6 hv6 hgl b6 hjl HW45
  go_wp2_with fail
  refine HSL.out.mono ?_
  rintro e w7 ⟨ob, vs, rfl, hrw, b7⟩
  have HRW := hide hrw
  replace hq0 := cell_later b7 hq0
  replace hq1 := cell_later b7 hq1
  replace hq2 := cell_later b7 hq2
  replace hq3 := cell_later b7 hq3
  replace HB6 := hide (HB6.out.trans (b7.mono HB6.out.size))
  clear hrw b7 HSL
  have HLS2 : Hid (∀ l ∈ lines, l.size ≤ 150) := fun l hl => by have := (lightTexts_of HLTX.out).2 l hl; omega
  have HOP := hide (okP_made (rs := rs.map RuleR.v) (lines := lines) (fold := fold) (by rw [List.length_map]; exact HOK.out.many.2) (by intro r hr; obtain ⟨x, hx, rfl⟩ := List.mem_map.1 hr; exact HOK.out.ok x hx) (by omega) HLS2.out)
  have HSO := hide fun k l hk hl => slice_out (fold := fold) (early := early) (many := many) (k := k) (rs := rs.map RuleR.v) (lines := lines) (l := l) hk hl
  have HCR := hide fun k l hk hl => cutP_rise (fold := fold) (early := early) (many := many) (n := k) (l := madeL (rs.map RuleR.v) fold lines) (s := l) hk hl
  have HCL : Hid (∀ (k : Nat) l, k < many → (cutP fold early many (madeL (rs.map RuleR.v) fold lines))[k]? = some l → okP l) := fun k l hk hl => by
    rw [cutP_get hk] at hl
    obtain rfl := Option.some.inj hl
    split
    · exact okP_grp (okP_sub HOP.out List.filter_sublist) fold
    · exact okP_srt (okP_sub HOP.out List.filter_sublist)
  have HPL : Hid (plainT (rs.map RuleR.v) fold many lines = (List.range many).map fun k => tx (textP (outL (rs.map RuleR.v) fold many lines k))) := rfl
  have HPN := hide fun (w' : World) (hb : Below w.heap.size w w') => RefPlain_any ro rc rs fold many early d lo lc lines w' (HJA.out w' hb) HOK.out (by omega) (HS.out.later hb (Nat.le_refl _)) HLS2.out
  have HCN := hide (cutP_len fold early many (madeL (rs.map RuleR.v) fold lines))
  generalize outL (rs.map RuleR.v) fold many lines = OL at *
  generalize plainT (rs.map RuleR.v) fold many lines = PT at *
  generalize cutP fold early many (madeL (rs.map RuleR.v) fold lines) = ss at *
  have hkf : kindFault fold = 0 := by have := HOK.out.fold; unfold kindFault; rw [if_neg (by omega)]
  clear HOP HVL HVK HLS HLS2 HJA HLTX HJF HS HJ HG HN
  go_wp2
  go_loopw [8, 42] (fun v kv wr => ∃ (k : Nat), k ≤ many ∧ kv = .int .i64 k ∧ Hid (Own 1 encS 9 wr w7.heap.size v ((List.range k).map fun k => tx (textP (OL k)))) ∧ Hid (Below w7.heap.size w7 wr)) (fun _ kv _ => many - (intOf kv).toNat)
  case atStart => exact ⟨0, by omega, rfl, Own.nil, Below.refl _ _⟩
  case round =>
    obtain ⟨k, hk, rfl, HOS, HBS⟩ := hrel
    have HBX := hide (HB6.out.trans (HBS.out.mono HB6.out.size))
    have j1 := cell_later HBS.out hq1
    by_cases hlt : k < many
    · obtain ⟨v, l, hv, hl, how, cv⟩ := (HRW.out.later HBS.out).row (k := k) (by rw [HCN.out]; exact hlt)
      obtain ⟨fa, fc, rfl⟩ := id how.1
      have HSLl := hide (how.sl encP_len)
      have HSO1 := hide (HSO.out k l hlt hl)
      have HCR1 := hide (HCR.out k l hlt hl)
      have HCL1 := hide (HCL.out k l hlt hl)
      have f1 : (0 : Int) ≤ (k : Int) ∧ (k : Int) < (many : Int) := by omega
      obtain ⟨f1, f2⟩ := f1
      have hba : Below wr.heap.size wr (wr.alloc (.cells #[.slice fa l.length fc] 30)) := (Below.refl _ _).alloc (Nat.le_refl _) _
      have hlit : Sl 1 encRow (wr.alloc (.cells #[.slice fa l.length fc] 30)) (some ⟨wr.heap.size, 0, none⟩) [(fa, fc, l)] := Sl.lit encRow_len (heap_new wr _) rfl
      have hll1 := HCL1.out.1
      have HNR := hide (New_run fold (some ⟨wr.heap.size, 0, none⟩) 1 [(fa, fc, l)] _ hkf (by simp) (by simp [rowsL]; omega) (by intro x hx; simp [rowsL] at hx; subst hx; exact HCR1.out) hlit (by intro r hr; rw [List.mem_singleton.1 hr]; exact HSLl.out.later hba (Nat.le_refl _)))
      have hrl : rowsL [(fa, fc, l)] = [l] := rfl
      rw [hrl] at HNR
      have HFL := hide (by simpa using okP_srt HCL1.out : okP (srt ([l] : List (List Pr)).flatten))
      generalize srt ([l] : List (List Pr)).flatten = L2 at *
      have HBA := hide hba
      clear hba hlit hrl hv hl how hll1
      go_wp2_with fail
      refine HNR.out.mono ?_
      rintro e w8 ⟨⟨g8, rfl, hv8⟩, b8⟩
      have HV8 := hide hv8
      have HB8 := hide (HBA.out.trans (b8.mono HBA.out.size))
      have hz8 := b8.size
      have HZ8 : Hid (wr.heap.size + 1 ≤ w8.heap.size) := by show _ ≤ _; simpa using hz8
      clear hv8 b8 hz8 HNR HBA cv
      have hgl : (groups fold L2).length ≤ 100000 := Nat.le_trans (groups_length _ _) HFL.out.1
      have HST8 := hide (Step_run 1048576 w8 (by have := HZ8.out; simpa using this) HV8.out (by have := HFL.out.1; omega) (by decide))
      rw [show min (0 + (1048576 : Int).toNat) (groups fold L2).length = (groups fold L2).length by omega] at HST8
      have HGL := hide hgl
      clear hgl
      have HOT : Hid (tx (textP ((groups fold L2).take (groups fold L2).length)) = tx (textP (OL k))) := by show _ = _; rw [List.take_length, HSO1.out]
      go_wp2_with fail
      refine HST8.out.mono ?_
      rintro e w9 ⟨⟨rfl, hv9⟩, k9⟩
      have b9 : Below wr.heap.size w8 w9 := k9.below (fun q hq => by have := hq.1; simp at this; omega) HB8.out.size
      have HB9 := hide (HB8.out.trans b9)
      have HOU := hide (Out_run w9 (HGT.out.later (HBX.out.trans (HB9.out.mono HBX.out.size)) (Nat.le_refl _)) hv9 HFL.out)
      rw [HOT.out] at HOU
      have HOS2 := hide (HOS.out.later HB9.out)
      have HBS2 := hide (HBS.out.trans (HB9.out.mono HBS.out.size))
      have HRS := hide (range_map_succ (fun k => tx (textP (OL k))) k)
      have hrl : ((List.range k).map fun k => tx (textP (OL k))).length = k := by simp
      generalize (List.range k).map (fun k => tx (textP (OL k))) = ts at *
      generalize tx (textP (OL k)) = tk at *
      clear hv9 k9 b9 HST8 HV8 HB8 HB9 HOS HBS HBX HOT HSO1 HGL HZ8
      go_wp2_with fail
      refine HOU.out.mono ?_
      rintro e w4' ⟨rfl, b4⟩
      have HOA := hide ((HOS2.out.later b4).alloc (.cells #[.string tk] 9))
      obtain ⟨xa, xc, hx9⟩ := id HOA.out.1
      have hxl : ts.length + 1 ≤ 1000000000 := by omega
      have HXL := hide hxl
      subst hx9
      have hb5 := HBS2.out.trans (b4.mono HBS2.out.size)
      have HBA2 := hide (hb5.alloc hb5.size (.cells #[.string tk] 9))
      clear b4 hb5 HOU HOS2 HBS2 hrl hxl
      go_wp2_with (at_builtin; refine wpList_append_one encS_len _ _ 40 i1 _ rfl rfl Tryd.underlying40 hi1 hy0 hy1 hy2 rfl (by decide) (by decide) HOA.out HBA2.out HBA2.out.size HXL.out rfl tk ⟨w4'.heap.size, 0, none⟩ 1 rfl (news_at rfl rfl) (one_str _) ?_)
      intro v' w5' ho hb _ _
      have HO := hide ho
      have HB' := hide hb
      clear ho hb HOA HBA2
      go_wp2
      go_roundw
      case rel => exact ⟨k + 1, by omega, by go_num, by rw [HRS.out]; exact HO, HB'⟩
      case measure => (simp [intOf]; try omega)
    · obtain rfl : k = many := by omega
      have q0 := cell_later HBS.out hq0
      have q2 := cell_later HBS.out hq2
      have q3 := cell_later HBS.out hq3
      obtain ⟨xa, xc, hx8⟩ := id HOS.out.1
      have hpt : ((List.range k).map fun k => tx (textP (OL k))).length ≤ 1000000000 := by simp; omega
      rw [← HPL.out] at HOS hx8 hpt
      subst hx8
      have HXS := hide (HOS.out.sl encS_len)
      have HPW := hide (HPN.out _ HBX.out)
      clear HPN HOS
      go_wp2_with fail
      refine HPW.out.mono ?_
      rintro e w9 ⟨v9, rfl, o9, b9⟩
      obtain ⟨ya, yc, rfl⟩ := id o9.1
      have HSM := hide (SameTexts_refl xa ya xc yc PT w9 hpt (HXS.out.later b9 (Nat.le_refl _)) (o9.sl encS_len))
      have HB9 := hide (HBX.out.trans (b9.mono HBX.out.size))
      clear o9 b9 HPW HXS q0 q2 q3 j1
      go_wp2_with fail
      refine HSM.out.mono ?_
      rintro e w10 ⟨rfl, b10⟩
      have HB10 := hide (HB9.out.trans (b10.mono HB9.out.size))
      clear b10 HSM
      go_wp2
      go_ret
      exact ⟨rfl, HB10.out⟩
end Go.Proofs.YtafogaopccajaaaDoor
