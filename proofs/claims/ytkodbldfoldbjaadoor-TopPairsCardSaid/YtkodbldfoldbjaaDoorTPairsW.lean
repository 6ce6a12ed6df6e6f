/- TopPairs: the law's walk. -/
import Derived.Test.YtkodbldfoldbjaaDoorPair7
import Derived.Test.YtkodbldfoldbjaaDoorRows2
import Derived.Test.YtkodbldfoldbjaaDoorSort7
import Derived.Test.YtkodbldfoldbjaaDoorApp
set_option linter.unusedSimpArgs false
set_option linter.unusedVariables false
namespace Go.Proofs.YtkodbldfoldbjaaDoor
open Go.RowKit

theorem textP_small : ∀ (l : List Pr), (∀ p ∈ l, p.1.size ≤ 60 ∧ -9223372036854775808 ≤ p.2 ∧ p.2 ≤ 9223372036854775807) → (textP l).length ≤ 103 * l.length
  | [], _ => Nat.le_refl _
  | p :: l, h => by
    have h1 := h p List.mem_cons_self
    have h3 := textP_small l fun x hx => h x (List.mem_cons_of_mem _ hx)
    have h4 : (Lib.itoa (p.1.size : Int)).length ≤ 20 := itoa_len (by omega) (by omega)
    have h5 : (Lib.itoa p.2).length ≤ 20 := itoa_len h1.2.1 h1.2.2
    rw [show textP (p :: l) = lineP p ++ textP l from rfl, List.length_append, List.length_cons]
    unfold lineP
    simp only [List.length_append, List.length_cons, List.length_nil, tl_len]
    omega
theorem txt_x : tx (textP [(⟨#[120]⟩, 1)]) = ⟨#[49, 58, 120, 32, 49, 10]⟩ := by
  unfold textP lineP
  rw [List.flatMap_cons, List.flatMap_nil, List.append_nil]
  rw [show ((⟨#[120]⟩ : ByteArray), (1 : Int)).1.size = 1 from rfl]
  rw [Lib.itoa_nonneg 1, Lib.decDigits_one (by decide), show ((⟨#[120]⟩ : ByteArray), (1 : Int)).2 = ((1 : Nat) : Int) from rfl, Lib.itoa_nonneg 1, Lib.decDigits_one (by decide)]
  rfl
theorem light_of {l : List Pr} {m : Int} (h : lightPairs l m = true) : (l.length : Int) ≤ m ∧ ∀ p ∈ l, p.1.size ≤ 60 := by
  simp only [lightPairs, Bool.and_eq_true, decide_eq_true_eq, List.all_eq_true, shortKey] at h
  exact h
theorem rise_at {l : List Pr} (h : Rise l) {k : Nat} {a b : Pr} (ha : l[k]? = some a) (hb : l[k + 1]? = some b) : Op.bytesLess b.1.toList a.1.toList = false := by
  obtain ⟨h1, e1⟩ := List.getElem?_eq_some_iff.1 ha
  obtain ⟨h2, e2⟩ := List.getElem?_eq_some_iff.1 hb
  have := (List.pairwise_iff_getElem.1 h) k (k + 1) h1 h2 (by omega)
  rw [e1, e2] at this
  exact this
set_option maxRecDepth 100000 in
set_option maxHeartbeats 8000000 in
theorem TopPairs_walk (ao bo : Option Addr) (ca cb : Nat) (a b : List Pr) (w : World) (hg : GW w) (hla : a.length ≤ maxLen) (hlb : b.length ≤ maxLen) (hva : ∀ p ∈ a, p.1.size ≤ maxLen ∧ -9223372036854775808 ≤ p.2 ∧ p.2 ≤ 9223372036854775807) (hvb : ∀ p ∈ b, p.1.size ≤ maxLen ∧ -9223372036854775808 ≤ p.2 ∧ p.2 ≤ 9223372036854775807)
    (hsa : Sl 2 encP w ao a) (hsb : Sl 2 encP w bo b) (hna : ao = none → ca = 0) (hnb : bo = none → cb = 0) :
    Calls Tryd.prog 10 #[.slice ao a.length ca, .slice bo b.length cb] w fun e w' => e = .returned (.bool true) ∧ Below w.heap.size w w' := by
  obtain ⟨ip, hpi, hpz0, hpz1, hpz2⟩ := info_parts infoPair
  have hb0 : Below w.heap.size w (w.alloc (.cells #[.string ⟨#[120]⟩, .int .i64 1] 47)) := (Below.refl _ _).alloc (Nat.le_refl _) _
  have HG := hide (hg.later hb0 (Nat.le_refl _))
  have HSA := hide (hsa.later hb0 (Nat.le_refl _))
  have HSB := hide (hsb.later hb0 (Nat.le_refl _))
  have HB := hide hb0
  have HT := hide (Text_any (some ⟨w.heap.size, 0, none⟩) 1 [(⟨#[120]⟩, 1)] _ HG.out ⟨by decide, by intro p hp; obtain rfl : p = _ := List.mem_singleton.1 hp; exact ⟨by decide, by decide, by decide⟩⟩ (Sl.lit encP_len (heap_new w (.cells #[.string ⟨#[120]⟩, .int .i64 1] 47)) rfl))
  rw [txt_x] at HT
  have HVA := hide hva
  have HVB := hide hvb
  have HNA := hide hna
  have HNB := hide hnb
  have HLA := hide hla
  have HLB := hide hlb
  unfold maxLen at hla hlb
  clear hg hsa hsb hb0 hva hvb hna hnb
  go_enter Tryd.func10, Tryd.ntmps10
  go_wp2_with fail
  refine HT.out.mono ?_
  rintro e w1 ⟨rfl, b1⟩
  clear HT
  generalize w.alloc (.cells #[.string ⟨#[120]⟩, .int .i64 1] 47) = W at *
  replace HB := hide (HB.out.trans (b1.mono HB.out.size))
  replace HG := hide (HG.out.later b1 (Nat.le_refl _))
  replace HSA := hide (HSA.out.later b1 (Nat.le_refl _))
  replace HSB := hide (HSB.out.later b1 (Nat.le_refl _))
  clear b1
  obtain ⟨la, hla2⟩ : ∃ la, lightPairs a 40 = la := ⟨_, rfl⟩
  obtain ⟨lb, hlb2⟩ : ∃ lb, lightPairs b 40 = lb := ⟨_, rfl⟩
  have HP1 := hide (LightPairs_any ao ca a 40 w1 HLA.out HSA.out)
  have HP2 := hide (LightPairs_any bo cb b 40 w1 HLB.out HSB.out)
  rw [hla2] at HP1
  rw [hlb2] at HP2
  have HLA2 := hide hla2
  have HLB2 := hide hlb2
  clear hla2 hlb2
  go_wp2_with fail
  refine HP1.out.mono ?_
  rintro e w1' ⟨rfl, rfl⟩
  clear HP1
  cases la
  · go_wp2
    go_ret
    exact ⟨rfl, HB.out⟩
  go_wp2_with fail
  refine HP2.out.mono ?_
  rintro e w1' ⟨rfl, rfl⟩
  clear HP2
  cases lb
  · go_wp2
    go_ret
    exact ⟨rfl, HB.out⟩
  have hA := light_of HLA2.out
  have hBB := light_of HLB2.out
  have HOA : Hid (okP a) := ⟨by omega, fun p hp => ⟨by have := hA.2 p hp; omega, (HVA.out p hp).2⟩⟩
  have HTS : Hid ((textP a).length ≤ 4120) := by
    have := textP_small a fun p hp => ⟨hA.2 p hp, (HVA.out p hp).2⟩
    show _ ≤ _; omega
  have ha40 : a.length ≤ 40 := by omega
  have hb40 : b.length ≤ 40 := by omega
  have HT := hide (Text_any ao ca a w1 HG.out HOA.out HSA.out)
  clear hA hBB HLA2 HLB2 hla hlb
  go_wp2_with fail
  refine HT.out.mono ?_
  rintro e w2 ⟨rfl, b2⟩
  clear HT
  replace HB := hide (HB.out.trans (b2.mono HB.out.size))
  replace HG := hide (HG.out.later b2 (Nat.le_refl _))
  replace HSA := hide (HSA.out.later b2 (Nat.le_refl _))
  replace HSB := hide (HSB.out.later b2 (Nat.le_refl _))
  clear b2
  have HP := hide (Parse_all (tx (textP a)) w2 HG.out (by rw [tx_size]; have := HTS.out; omega))
  have hpl := listS_of (parse_text a fun p hp => ⟨by have := (HOA.out.2 p hp).1; omega, (HVA.out p hp).2⟩)
  rw [tx_list, hpl.1, hpl.2, errV_zero] at HP
  clear hpl HTS
  go_wp2_with fail
  refine HP.out.mono ?_
  rintro e w3 ⟨⟨al, cl, rfl, ol⟩, b3⟩
  clear HP
  replace HB := hide (HB.out.trans (b3.mono HB.out.size))
  replace HG := hide (HG.out.later b3 (Nat.le_refl _))
  replace HSA := hide (HSA.out.later b3 (Nat.le_refl _))
  replace HSB := hide (HSB.out.later b3 (Nat.le_refl _))
  have HOL := hide ol
  have HSo := hide (Sort_any ao ca a w3 (by omega) HSA.out)
  clear b3 ol
  go_wp2_with fail
  refine HSo.out.mono ?_
  rintro e w4 ⟨v4, rfl, o4, b4⟩
  obtain ⟨sa, cs, hv4⟩ := id o4.1
  rw [srt_len] at hv4
  subst hv4
  clear HSo
  replace HB := hide (HB.out.trans (b4.mono HB.out.size))
  replace HSA := hide (HSA.out.later b4 (Nat.le_refl _))
  replace HSB := hide (HSB.out.later b4 (Nat.le_refl _))
  replace HOL := hide (HOL.out.later b4)
  have HOS := hide o4
  have HSo := hide (Sort_any bo cb b w4 (by omega) HSB.out)
  clear b4 o4
  go_wp2_with fail
  refine HSo.out.mono ?_
  rintro e w5 ⟨v5, rfl, o5, b5⟩
  obtain ⟨sb, cbs, hv5⟩ := id o5.1
  rw [srt_len] at hv5
  subst hv5
  clear HSo
  replace HB := hide (HB.out.trans (b5.mono HB.out.size))
  replace HSA := hide (HSA.out.later b5 (Nat.le_refl _))
  replace HSB := hide (HSB.out.later b5 (Nat.le_refl _))
  replace HOL := hide (HOL.out.later b5)
  replace HOS := hide (HOS.out.later b5)
  have HOT := hide o5
  clear b5 o5
  have HSP := hide (SamePairs_refl al ao cl ca a w5 HLA.out (HOL.out.sl encP_len) HSA.out)
  go_wp2_with fail
  refine HSP.out.mono ?_
  rintro e w6 ⟨rfl, b6⟩
  clear HSP
  replace HB := hide (HB.out.trans (b6.mono HB.out.size))
  replace HSA := hide (HSA.out.later b6 (Nat.le_refl _))
  replace HSB := hide (HSB.out.later b6 (Nat.le_refl _))
  replace HOS := hide (HOS.out.later b6)
  replace HOT := hide (HOT.out.later b6)
  have hsl : Sl 2 encP w6 sa (srt a) := by
    have := HOS.out
    rw [← srt_len a] at this
    exact this.sl encP_len
  have HSo := hide (Sort_any sa cs (srt a) w6 (by rw [srt_len]; omega) hsl)
  rw [srt_len, srt_id (srt_rise a)] at HSo
  clear b6 HOL hsl
  go_wp2_with fail
  refine HSo.out.mono ?_
  rintro e w7 ⟨v7, rfl, o7, b7⟩
  obtain ⟨a7, c7, hv7⟩ := id o7.1
  rw [srt_len] at hv7
  subst hv7
  clear HSo
  replace HB := hide (HB.out.trans (b7.mono HB.out.size))
  replace HSA := hide (HSA.out.later b7 (Nat.le_refl _))
  replace HSB := hide (HSB.out.later b7 (Nat.le_refl _))
  replace HOS := hide (HOS.out.later b7)
  replace HOT := hide (HOT.out.later b7)
  have hq1 := HOS.out
  rw [← srt_len a] at hq1 o7
  have HSP := hide (SamePairs_refl a7 sa c7 cs (srt a) w7 (by rw [srt_len]; exact HLA.out) (o7.sl encP_len) (hq1.sl encP_len))
  rw [srt_len] at HSP
  clear b7 o7 hq1
  go_wp2_with fail
  refine HSP.out.mono ?_
  rintro e w8 ⟨rfl, b8⟩
  clear HSP
  replace HB := hide (HB.out.trans (b8.mono HB.out.size))
  replace HSA := hide (HSA.out.later b8 (Nat.le_refl _))
  replace HSB := hide (HSB.out.later b8 (Nat.le_refl _))
  replace HOS := hide (HOS.out.later b8)
  replace HOT := hide (HOT.out.later b8)
  have HSS : Hid (Sl 2 encP w8 sa (srt a)) := by
    have := HOS.out
    rw [← srt_len a] at this
    exact this.sl encP_len
  have hw8 := HB.out.size
  clear b8
  go_wp2_with fail
  go_loopw [9] (fun i wr => ∃ k : Nat, (k ≤ a.length ∨ k = 0) ∧ i = .int .i64 ((k : Int) + 1) ∧ Below w8.heap.size w8 wr) (fun i _ => a.length + 2 - (intOf i).toNat)
  case atStart => exact ⟨0, by omega, by go_num, Below.refl _ _⟩
  case round =>
    obtain ⟨k, hk, rfl, hnx⟩ := hrel
    by_cases hlt : k + 1 < a.length
    · obtain ⟨bb, off, x, y, rfl, hbw, hlk, c0, c1⟩ := (HSS.out.later hnx (Nat.le_refl _)).pair (show k < (srt a).length by rw [srt_len]; omega)
      obtain ⟨_, _, x2, y2, e1, _, hlk2, c2, c3⟩ := (HSS.out.later hnx (Nat.le_refl _)).pair (show k + 1 < (srt a).length by rw [srt_len]; omega)
      cases e1
      have hb := rise_at (srt_rise a) hlk hlk2
      dsimp only at hb
      have f1 : (0 : Int) ≤ (k : Int) + 1 ∧ (k : Int) + 1 < (a.length : Int) ∧ (0 : Int) ≤ (k : Int) ∧ (k : Int) < (a.length : Int) := by omega
      obtain ⟨f1, f2, f3, f4⟩ := f1
      have f5 : IntKind.i64.wrap ((k : Int) + 1 - 1) = (k : Int) := by rw [show ((k : Int) + 1 - 1) = (k : Int) from by omega]; exact IntWalk.i64_in _ (by omega)
      have f6 : ((k : Int) + 1).toNat = k + 1 := by omega
      have HNX := hide hnx
      clear hlk hlk2 hnx
      go_wp2
      go_quiet (fail)
      clear f5 f6
      go_wp2
      go_roundw
      case rel => exact ⟨k + 1, by omega, by go_num, below_drewN HNX.out _⟩
      case measure => (simp [intOf]; try omega)
    · have HN := hide hnx
      replace HB := hide (HB.out.trans (hnx.mono HB.out.size))
      replace HSA := hide (HSA.out.later hnx (Nat.le_refl _))
      replace HSB := hide (HSB.out.later hnx (Nat.le_refl _))
      replace HSS := hide (HSS.out.later hnx (Nat.le_refl _))
      replace HOS := hide (HOS.out.later hnx)
      replace HOT := hide (HOT.out.later hnx)
      obtain ⟨W9, rfl⟩ : ∃ w9, w9 = wr := ⟨_, rfl⟩
      have f9 : decide ((k : Int) + 1 < (a.length : Int)) = false := by simp; omega
      clear hnx hk hlt HN
      have G1 : ([] : List Pr).length + a.length ≤ 1000000000 := by simp; omega
      have G2 : (([] : List Pr) ++ a).length + b.length ≤ 1000000000 := by simp; omega
      have hbs : ∀ (w' : World), Below W9.heap.size W9 w' → Sl 2 encP w' bo b := fun w' h => HSB.out.later h (Nat.le_refl _)
      have HBS := hide hbs
      clear hbs
      go_wp2_with (first
        | (at_builtin; refine wpList_append_any encP_len _ _ 43 ip _ rfl rfl Tryd.underlying43 hpi hpz0 hpz1 hpz2 rfl (by decide) (by decide) (Own.nil (base := W9.heap.size)) (Below.refl W9.heap.size W9) (Nat.le_refl _) a G1 rfl ao ca _ rfl rfl HNA.out HSA.out (one_flat one_pair) ?_; intro v10 w10 o10 b10 g10 a10; clear g10 a10)
        | (at_builtin; refine wpList_append_any encP_len _ _ 43 ip _ rfl rfl Tryd.underlying43 hpi hpz0 hpz1 hpz2 rfl (by decide) (by decide) o10 b10 b10.size b G2 rfl bo cb _ rfl rfl HNB.out (HBS.out _ b10) (one_flat one_pair) ?_; intro v11 w11 o11 b11 g11 a11; clear g11 a11))
      have HB11 := hide (HB.out.trans (b11.mono HB.out.size))
      have hb12 : Below w11.heap.size w11 (w11.alloc (.cells #[.slice sa a.length cs, .slice sb b.length cbs] 43)) := (Below.refl _ _).alloc (Nat.le_refl _) _
      have hOS : Own 2 encP 47 (w11.alloc (.cells #[.slice sa a.length cs, .slice sb b.length cbs] 43)) w3.heap.size (.slice sa (srt a).length cs) (srt a) := by rw [srt_len]; exact (HOS.out.later b11).later hb12
      have hOT : Own 2 encP 47 (w11.alloc (.cells #[.slice sa a.length cs, .slice sb b.length cbs] 43)) w4.heap.size (.slice sb (srt b).length cbs) (srt b) := by rw [srt_len]; exact (HOT.out.later b11).later hb12
      obtain ⟨a11, c11, rfl⟩ := id o11.1
      have hO11 := o11.later hb12
      have hrows : Sl 1 encRow (w11.alloc (.cells #[.slice sa a.length cs, .slice sb b.length cbs] 43)) (some ⟨w11.heap.size, 0, none⟩) [(sa, cs, srt a), (sb, cbs, srt b)] := Sl.lit encRow_len (heap_new _ _) (by simp [encRow, srt_len])
      have hflat : (rowsL [(sa, cs, srt a), (sb, cbs, srt b)]).flatten = srt a ++ srt b := by simp [rowsL]
      have hss : srt (srt a ++ srt b) = srt (a ++ b) := srt_congr (SameK.append (srt_same a) (srt_same b))
      have HM := hide (Merge_any (some ⟨w11.heap.size, 0, none⟩) 2 [(sa, cs, srt a), (sb, cbs, srt b)] _ (by simp) (by rw [hflat, List.length_append, srt_len, srt_len]; omega)
        (by intro l hl; simp [rowsL] at hl; rcases hl with rfl | rfl <;> exact srt_rise _) hrows
        (by intro r hr; simp at hr; rcases hr with rfl | rfl; exact hOS.sl encP_len; exact hOT.sl encP_len))
      rw [hflat, hss] at HM
      have HO11 := hide hO11
      have HB12 := hide (HB11.out.trans (hb12.mono HB11.out.size))
      have hlen : ([] ++ a ++ b : List Pr).length ≤ 80 := by simp; omega
      have hlab : ([] ++ a ++ b : List Pr) = a ++ b := by simp
      rw [hlab] at HO11 hlen
      have hsl : (srt (a ++ b)).length ≤ maxLen := by rw [srt_len]; unfold maxLen; omega
      generalize hL : srt (a ++ b) = L at *
      have HL := hide hL
      clear hL
      have HSLL := hide hsl
      clear hOS hOT o11 o10 b10 b11 hrows hflat hss hO11 hb12 hsl HBS HSS HSA HSB HB11 HB G1 G2
      simp only [List.nil_append] at HO11 HM ⊢
      go_wp2_with fail
      refine HM.out.mono ?_
      rintro e w13 ⟨v13, rfl, o13, b13⟩
      obtain ⟨a13, c13, rfl⟩ := id o13.1
      clear HM
      have HB13 := hide (HB12.out.trans (b13.mono HB12.out.size))
      have HO13 := hide o13
      have h11 := (HO11.out.later b13).sl encP_len
      have HSo := hide (Sort_any a11 c11 (a ++ b) w13 (by omega) h11)
      rw [List.length_append] at HSo
      clear o13 b13 h11 HO11 HB12
      go_wp2_with fail
      refine HSo.out.mono ?_
      rintro e w14 ⟨v14, rfl, o14, b14⟩
      clear HSo
      have HB14 := hide (HB13.out.trans (b14.mono HB13.out.size))
      have hL : srt (a ++ b) = L := HL.out
      rw [hL] at o14
      obtain ⟨a14, c14, rfl⟩ := id o14.1
      have HSP := hide (SamePairs_refl a13 a14 c13 c14 L w14 HSLL.out ((HO13.out.later b14).sl encP_len) (o14.sl encP_len))
      clear o14 b14 hL HO13 HB13
      go_wp2_with fail
      refine HSP.out.mono ?_
      rintro e w15 ⟨rfl, b15⟩
      have HB15 := hide (HB14.out.trans (b15.mono HB14.out.size))
      clear HSP b15
      go_wp2
      go_ret
      exact ⟨rfl, HB15.out⟩
end Go.Proofs.YtkodbldfoldbjaaDoor
