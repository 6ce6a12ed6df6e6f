/- The journal: two entries that are the same; the closed fact. -/
import Derived.Test.YtkodbldfoldbjaaDoorJour5
import Derived.Test.YtkodbldfoldbjaaDoorJourLaw2
set_option linter.unusedSimpArgs false
set_option linter.unusedVariables false
namespace Go.Proofs.YtkodbldfoldbjaaDoor
open Go.RowKit

theorem takeS_count : ∀ (z : List Int) (r : List UInt8) (x), takeS z r = some x → x.1.length = z.length
  | [], r, x, h => by rw [takeS_nil] at h; cases h; rfl
  | k :: z, r, x, h => by
    rw [takeS_cons] at h
    split at h
    · cases h
    · obtain ⟨y, hy, rfl⟩ := Option.map_eq_some_iff.1 h
      show (_ :: y.1).length = _
      rw [List.length_cons, List.length_cons, takeS_count z _ y hy]
theorem oneE_small {s r : List UInt8} {e : En} (h : oneE s = some (e, r)) : e.2.1.length ≤ s.length ∧ e.2.2.length ≤ s.length := by
  unfold oneE at h
  split at h
  · obtain ⟨n, hn, h⟩ := Option.bind_eq_some_iff.1 h
    obtain ⟨z, hz, h⟩ := Option.bind_eq_some_iff.1 h
    obtain ⟨T, h1, h⟩ := Option.bind_eq_some_iff.1 h
    obtain ⟨r', h2, h⟩ := Option.map_eq_some_iff.1 h
    cases h
    have l1 := (cutAt_len 10 s).1
    have l2 := (cutAt_len 59 (cutAt 10 s).1).1
    have l3 := numsV_len ((cutAt 59 (cutAt 10 s).1).1.drop (cutAt 32 (cutAt 59 (cutAt 10 s).1).1).1.length)
    rw [hn, List.length_drop] at l3
    have l4 := numsV_len (cutAt 59 (cutAt 10 s).1).2.1
    rw [hz] at l4
    have l5 := takeS_count _ _ _ h1
    dsimp only [Option.getD] at l3 l4 ⊢
    exact ⟨by omega, by omega⟩
  · cases h
theorem parseE_small : ∀ (n : Nat) (s : List UInt8), s.length ≤ n → (parseE s).length ≤ s.length ∧ ∀ e ∈ parseE s, e.2.1.length ≤ s.length ∧ e.2.2.length ≤ s.length := by
  intro n
  induction n with
  | zero =>
    intro s h
    obtain rfl := List.length_eq_zero_iff.1 (Nat.le_zero.1 h)
    rw [parseE_none oneE_nil]
    exact ⟨Nat.le_refl _, fun e he => by cases he⟩
  | succ n ih =>
    intro s h
    cases ho : oneE s with
    | none => rw [parseE_none ho]; exact ⟨Nat.zero_le _, fun e he => by cases he⟩
    | some x =>
      obtain ⟨e, r⟩ := x
      have hl := oneE_len ho
      obtain ⟨h1, h2⟩ := ih r (by omega)
      rw [parseE_some ho]
      refine ⟨by rw [List.length_cons]; omega, fun f hf => ?_⟩
      rcases List.mem_cons.1 hf with rfl | hf
      · exact oneE_small ho
      · have := h2 f hf
        exact ⟨by omega, by omega⟩
set_option maxRecDepth 100000 in
set_option maxHeartbeats 2000000 in
theorem sameEntry_any (k : ByteArray) (na ta nb tb : Option Addr) (nc tc nd td : Nat) (N : List Int) (T : List ByteArray) (w : World) (hN : N.length ≤ maxLen) (hT : T.length ≤ 1000000000) (h1 : Sl 1 encInt w na N) (h2 : Sl 1 encS w ta T) (h3 : Sl 1 encInt w nb N) (h4 : Sl 1 encS w tb T) :
    Calls Tryd.prog 54 #[.agg #[.string k, .slice na N.length nc, .slice ta T.length tc], .agg #[.string k, .slice nb N.length nd, .slice tb T.length td]] w fun e w' => e = .returned (.bool true) ∧ Below w.heap.size w w' := by
  have hb1 : Below w.heap.size w (w.alloc (.cells #[.string k, .slice na N.length nc, .slice ta T.length tc] 73)) := (Below.refl _ _).alloc (Nat.le_refl _) _
  have hbk1 : Bk (w.alloc (.cells #[.string k, .slice na N.length nc, .slice ta T.length tc] 73)) w.heap.size [.string k, .slice na N.length nc, .slice ta T.length tc] := Bk.new rfl
  generalize hw1 : w.alloc (.cells #[.string k, .slice na N.length nc, .slice ta T.length tc] 73) = w1 at *
  have hb2 : Below w1.heap.size w1 (w1.alloc (.cells #[.string k, .slice nb N.length nd, .slice tb T.length td] 77)) := (Below.refl _ _).alloc (Nat.le_refl _) _
  have hbk2 : Bk (w1.alloc (.cells #[.string k, .slice nb N.length nd, .slice tb T.length td] 77)) w1.heap.size [.string k, .slice nb N.length nd, .slice tb T.length td] := Bk.new rfl
  have HB := hide (hb1.trans (hb2.mono hb1.size))
  have hbk1' := hbk1.later hb2
  subst hw1
  have c0 := hbk1'.get (j := 0) rfl
  have c1 := hbk1'.get (j := 1) rfl
  have c2 := hbk1'.get (j := 2) rfl
  have d0 := hbk2.get (j := 0) rfl
  have d1 := hbk2.get (j := 1) rfl
  have d2 := hbk2.get (j := 2) rfl
  rw [heap_size] at d0 d1 d2
  have H1 := hide h1
  have H2 := hide h2
  have H3 := hide h3
  have H4 := hide h4
  have hkk := beqq k
  clear h1 h2 h3 h4 hb1 hb2 hbk1 hbk1' hbk2
  have HSN := hide fun w' (hb : Below w.heap.size w w') => SameNumbers_refl na nb nc nd N w' hN (H1.out.later hb (Nat.le_refl _)) (H3.out.later hb (Nat.le_refl _))
  have HST := hide fun w' (hb : Below w.heap.size w w') => SameTexts_refl ta tb tc td T w' hT (H2.out.later hb (Nat.le_refl _)) (H4.out.later hb (Nat.le_refl _))
  clear H1 H2 H3 H4 hN hT
  go_enter Tryd.func54, Tryd.ntmps54
  go_wp2_with fail
  refine (HSN.out _ HB.out).mono ?_
  rintro e w3 ⟨rfl, b3⟩
  replace c2 := cell_later b3 c2
  replace d2 := cell_later b3 d2
  replace HB := hide (HB.out.trans (b3.mono HB.out.size))
  clear b3 HSN c0 c1 d0 d1
  go_wp2_with fail
  refine (HST.out _ HB.out).mono ?_
  rintro e w4 ⟨rfl, b4⟩
  replace HB := hide (HB.out.trans (b4.mono HB.out.size))
  clear b4 HST
  go_wp2
  go_ret
  exact ⟨rfl, HB.out⟩
theorem infoREntry : (Tryd.prog.info? 77).map (fun i => (i.zero, i.size, i.bytes)) = some (some (.agg #[.string ⟨#[]⟩, .slice none 0 0, .slice none 0 0]), 3, 64) := by kernel_rfl
set_option maxRecDepth 100000 in
set_option maxHeartbeats 4000000 in
theorem Entries_any (s : ByteArray) (w : World) (hs : s.size ≤ 1000000) :
    Calls Tryd.prog 56 #[.string s] w (ParseEPost s.data.toList 77 w) := by
  obtain ⟨i0, hi, hz0, hz1, hz2⟩ := info_parts infoREntry
  have hsl := tl_len s
  obtain ⟨S, hS⟩ : ∃ S, s.data.toList = S := ⟨_, rfl⟩
  obtain rfl : s = tx S := by rw [← hS, tx_of]
  rw [tx_list]
  rw [tx_list] at hsl
  have HSL : Hid (S.length ≤ 1000000) := by show _ ≤ _; omega
  clear hS hsl hs
  go_enter Tryd.func56, Tryd.ntmps56
  go_wp2_with fail
  go_loopw [0, 3] (fun sv v wr => ∃ (r : List UInt8) (rs : List EnR), sv = .string (tx r) ∧ Hid (r.length + rs.length ≤ S.length) ∧ Hid (parseE S = rs.map enOfR ++ parseE r) ∧ Own 3 encEn 77 wr w.heap.size v rs ∧ Hid (∀ r ∈ rs, EnRow wr v r) ∧ Below w.heap.size w wr) (fun sv _ _ => strLen sv)
  case atStart => exact ⟨S, [], rfl, by show _ ≤ _; simp, by show _ = _; simp, Own.nil, (fun r h => by cases h), Below.refl _ _⟩
  case round =>
    obtain ⟨r, rs, rfl, HLN, HP, hown, HRS, hbl⟩ := hrel
    have HO := hide (First_any (tx r) wr (by rw [tx_size]; have h1 := HLN.out; have h2 := HSL.out; omega))
    unfold FirstPost at HO
    rw [tx_list] at HO
    have HEN := hide (oneE_en (S := r))
    have HNO := hide (oneE_no (S := r))
    obtain ⟨ok, hok⟩ : ∃ ok, okE r = ok := ⟨_, rfl⟩
    rw [hok] at HEN HNO HO
    have hlr := hide (oneE_len (s := r) (r := restOf r) (e := enOf r))
    have hdr := hide (oneE_drop (s := r) (r := restOf r) (e := enOf r))
    generalize hen : enOf r = en at *
    generalize hre : restOf r = re at *
    clear hok hen hre
    have HB := hide hbl
    have HOW := hide hown
    obtain ⟨⟨oa, oc, rfl⟩, _⟩ := id hown
    clear hown hbl
    go_wp2_with fail
    refine HO.out.mono ?_
    rintro e w1 ⟨⟨na, nc, ta, tc, rfl, hsn, hst, hfn, hft⟩, b1⟩
    unfold enV
    have hbA : Below w1.heap.size w1 (w1.alloc (.cells #[.string en.1, .slice na en.2.1.length nc, .slice ta en.2.2.length tc] 77)) := (Below.refl _ _).alloc (Nat.le_refl _) _
    have hbk : Bk (w1.alloc (.cells #[.string en.1, .slice na en.2.1.length nc, .slice ta en.2.2.length tc] 77)) w1.heap.size [.string en.1, .slice na en.2.1.length nc, .slice ta en.2.2.length tc] := Bk.new rfl
    have HB1 := hide (HB.out.trans (b1.mono HB.out.size))
    have HB2 := hide (HB1.out.trans (hbA.mono HB1.out.size))
    have HOW2 := hide ((HOW.out.later b1).later hbA)
    have HR2 : Hid (∀ r ∈ rs, EnRow (w1.alloc (.cells #[.string en.1, .slice na en.2.1.length nc, .slice ta en.2.2.length tc] 77)) (.slice oa rs.length oc) r) := fun r hr => ((HRS.out r hr).later b1).later hbA
    have hsa := hbA.size
    have hne : ∀ b, wr.heap.size ≤ b → (Value.slice oa rs.length oc).ownBlock ≠ some b := fun b hb e => by have := (HOW.out.lt b e).2; omega
    have HN2 : Hid (EnRow (w1.alloc (.cells #[.string en.1, .slice na en.2.1.length nc, .slice ta en.2.2.length tc] 77)) (.slice oa rs.length oc) (en.1, (na, nc, en.2.1), (ta, tc, en.2.2))) := ⟨hsn.later hbA (Nat.le_refl _), hst.later hbA (Nat.le_refl _), fun b off e => ⟨by have := (hfn b off e).2; omega, hne b (hfn b off e).1⟩, fun b off e => ⟨by have := (hft b off e).2; omega, hne b (hft b off e).1⟩⟩
    have c0 := hbk.get (j := 0) rfl
    have c1 := hbk.get (j := 1) rfl
    have c2 := hbk.get (j := 2) rfl
    have hlw := hbk.lt
    clear hbA hbk hsn hst b1 HO HB HOW HRS HB1 hsa hne hfn hft
    cases ok
    · have HT : Hid (rs.map enOfR = parseE S) := by
        show _ = _
        rw [HP.out, parseE_none (HNO.out rfl), List.append_nil]
      clear HP HNO HEN hlr hdr
      go_wp2
      go_ret
      exact ⟨_, rs, rfl, HT.out, HOW2.out, HR2.out, HB2.out⟩
    · have hso := HEN.out rfl
      have HLR := hide (hlr.out hso)
      have HDR := hide (hdr.out hso)
      have HT : Hid (parseE S = (rs ++ [(en.1, (na, nc, en.2.1), (ta, tc, en.2.2))]).map enOfR ++ parseE re) := by
        show _ = _
        rw [HP.out, parseE_some hso]
        simp [enOfR]
      have hrl : rs.length + 1 ≤ 1000001 := by have h1 := HLN.out; have h2 := HSL.out; omega
      have HL2 : Hid (re.length + (rs ++ [(en.1, (na, nc, en.2.1), (ta, tc, en.2.2))]).length ≤ S.length) := by
        have h1 := HLN.out
        have h2 := HLR.out
        show _ ≤ _
        rw [List.length_append, List.length_singleton]; omega
      obtain ⟨nn, hnn⟩ : ∃ nn : Nat, (r.length : Int) - (re.length : Int) = (nn : Int) := ⟨r.length - re.length, by have := HLR.out; omega⟩
      have hext : (tx r).extract nn (tx r).size = tx re := by
        rw [tx_extD, show nn = r.length - re.length by have := HLR.out; omega, HDR.out]
      have hnl : (nn : Int) ≤ ((tx r).size : Int) := by rw [tx_size]; omega
      rw [hnn]
      have hws := HB2.out.size
      clear HP HNO HEN hlr hso HLN hdr HDR
      go_upto_region 5 with (fail)
      generalize w1.alloc (.cells #[.string en.1, .slice na en.2.1.length nc, .slice ta en.2.2.length tc] 77) = W at *
      have HAL := hide fun (o : Obj) => (Below.refl W.heap.size W).alloc (Nat.le_refl _) o
      go_wp2_with (at_builtin; refine wpList_append_one encEn_len _ _ 85 i0 _ rfl rfl Tryd.underlying85 hi hz0 hz1 hz2 rfl (by decide) (by decide) (HOW2.out.alloc _) (HB2.out.alloc hws _) ?c1 ?c2 rfl (en.1, (na, nc, en.2.1), (ta, tc, en.2.2)) ⟨W.heap.size, 0, none⟩ 1 rfl ?c3 ?c4 ?_)
      case c1 => simp; omega
      case c2 => omega
      case c3 => exact news_cells W _ rfl
      case c4 => exact one_en _
      intro v' w4 ho hb hgr hat
      have hat2 := hat.imp id fun e => (⟨_, e, Nat.le_succ _⟩ : ∃ m, v'.ownBlock = some m ∧ W.heap.size ≤ m)
      have HR4 : Hid (∀ r ∈ rs ++ [(en.1, (na, nc, en.2.1), (ta, tc, en.2.2))], EnRow w4 v' r) := fun r hr => by
        rcases List.mem_append.1 hr with hr | hr
        · exact (HR2.out r hr).grown (HAL.out _) (HAL.out _).size hgr hat2
        · rw [List.mem_singleton.1 hr]
          exact HN2.out.grown (HAL.out _) (HAL.out _).size hgr hat2
      clear hgr hat hat2 HAL HR2 HN2
      go_wp2
      go_roundw
      case rel => exact ⟨re, rs ++ [(en.1, (na, nc, en.2.1), (ta, tc, en.2.2))], rfl, HL2, HT, ho, HR4, hb⟩
      case measure => (simp [strLen, tx_size]; have h1 := HLR.out; omega)
end Go.Proofs.YtkodbldfoldbjaaDoor
