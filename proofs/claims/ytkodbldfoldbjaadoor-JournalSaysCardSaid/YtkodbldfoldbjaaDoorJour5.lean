/- The journal: all entries of a text. -/
import Derived.Test.YtkodbldfoldbjaaDoorJour4
import Derived.Test.YtkodbldfoldbjaaDoorJourRow
set_option linter.unusedSimpArgs false
set_option linter.unusedVariables false
namespace Go.Proofs.YtkodbldfoldbjaaDoor
open Go.RowKit

structure EnRow (w : World) (v : Value) (r : EnR) : Prop where
  nums : Sl 1 encInt w r.2.1.1 r.2.1.2.2
  texts : Sl 1 encS w r.2.2.1 r.2.2.2.2
  nlt : ∀ b off, r.2.1.1 = some ⟨b, off, none⟩ → b < w.heap.size ∧ v.ownBlock ≠ some b
  tlt : ∀ b off, r.2.2.1 = some ⟨b, off, none⟩ → b < w.heap.size ∧ v.ownBlock ≠ some b
theorem EnRow.later {w w' : World} {v : Value} {r : EnR} (h : EnRow w v r) (hb : Below w.heap.size w w') : EnRow w' v r :=
  ⟨h.nums.later hb (Nat.le_refl _), h.texts.later hb (Nat.le_refl _), fun b off e => ⟨Nat.lt_of_lt_of_le (h.nlt b off e).1 hb.size, (h.nlt b off e).2⟩, fun b off e => ⟨Nat.lt_of_lt_of_le (h.tlt b off e).1 hb.size, (h.tlt b off e).2⟩⟩
theorem EnRow.grown {W A w' : World} {v v' : Value} {r : EnR} (h : EnRow W v r) (hA : Below W.heap.size W A) (hs : W.heap.size ≤ A.heap.size) (hg : A.grownBy w' v.ownBlock) (hat : v'.ownBlock = v.ownBlock ∨ ∃ m, v'.ownBlock = some m ∧ W.heap.size ≤ m) : EnRow w' v' r := by
  have h2 := h.later hA
  have hk : KeptBut (fun q => v.ownBlock = some q) A w' := KeptBut.of_grown hg fun k e => e
  have hz := hk.size
  have key : ∀ b, b < W.heap.size ∧ v.ownBlock ≠ some b → b < w'.heap.size ∧ v'.ownBlock ≠ some b := fun b hb => ⟨by omega, fun e => by
    rcases hat with e2 | ⟨m, e2, hm⟩
    · rw [e2] at e; exact hb.2 e
    · rw [e2] at e; have := Option.some.inj e; omega⟩
  exact ⟨h2.nums.keptBy hk fun b off e => (h.nlt b off e).2, h2.texts.keptBy hk fun b off e => (h.tlt b off e).2, fun b off e => key b (h.nlt b off e), fun b off e => key b (h.tlt b off e)⟩
theorem oneE_en {S : List UInt8} (h : okE S = true) : oneE S = some (enOf S, restOf S) := by
  unfold okE at h
  obtain ⟨x, hx⟩ := Option.isSome_iff_exists.1 h
  unfold enOf restOf
  rw [hx]
theorem oneE_no {S : List UInt8} (h : okE S = false) : oneE S = none := by
  unfold okE at h
  exact Option.not_isSome_iff_eq_none.1 (by rw [h]; simp)
theorem infoEntry : (Tryd.prog.info? 73).map (fun i => (i.zero, i.size, i.bytes)) = some (some (.agg #[.string ⟨#[]⟩, .slice none 0 0, .slice none 0 0]), 3, 64) := by kernel_rfl
def ParseEPost (S : List UInt8) (ty : TypeId) (w : World) (e : Ending) (w' : World) : Prop :=
  ∃ v rs, e = .returned v ∧ rs.map enOfR = parseE S ∧ Own 3 encEn ty w' w.heap.size v rs ∧ (∀ r ∈ rs, EnRow w' v r) ∧ Below w.heap.size w w'
set_option maxRecDepth 100000 in
set_option maxHeartbeats 4000000 in
theorem ParseE_any (s : ByteArray) (w : World) (hg : GW w) (hs : s.size ≤ 1000000) :
    Calls Tryd.prog 55 #[.string s] w (ParseEPost s.data.toList 73 w) := by
  obtain ⟨i0, hi, hz0, hz1, hz2⟩ := info_parts infoEntry
  have hsl := tl_len s
  obtain ⟨S, hS⟩ : ∃ S, s.data.toList = S := ⟨_, rfl⟩
  obtain rfl : s = tx S := by rw [← hS, tx_of]
  rw [tx_list]
  rw [tx_list] at hsl
  have HSL : Hid (S.length ≤ 1000000) := by show _ ≤ _; omega
  have HG := hide hg
  clear hS hsl hs hg
  go_enter Tryd.func55, Tryd.ntmps55
  go_wp2_with fail
  go_loopw [0, 3] (fun sv v wr => ∃ (r : List UInt8) (rs : List EnR), sv = .string (tx r) ∧ Hid (r.length + rs.length ≤ S.length) ∧ Hid (parseE S = rs.map enOfR ++ parseE r) ∧ Own 3 encEn 73 wr w.heap.size v rs ∧ Hid (∀ r ∈ rs, EnRow wr v r) ∧ Below w.heap.size w wr) (fun sv _ _ => strLen sv)
  case atStart => exact ⟨S, [], rfl, by show _ ≤ _; simp, by show _ = _; simp, Own.nil, (fun r h => by cases h), Below.refl _ _⟩
  case round =>
    obtain ⟨r, rs, rfl, HLN, HP, hown, HRS, hbl⟩ := hrel
    have HO := hide (One_any (tx r) wr (HG.out.later hbl (Nat.le_refl _)) (by rw [tx_size]; have h1 := HLN.out; have h2 := HSL.out; omega))
    unfold OnePost at HO
    rw [tx_list] at HO
    have HEN := hide (oneE_en (S := r))
    have HNO := hide (oneE_no (S := r))
    obtain ⟨ok, hok⟩ : ∃ ok, okE r = ok := ⟨_, rfl⟩
    rw [hok] at HEN HNO HO
    have hlr := hide (oneE_len (s := r) (r := restOf r) (e := enOf r))
    generalize hen : enOf r = en at *
    generalize hre : restOf r = re at *
    clear hok hen hre
    have HB := hide hbl
    have HOW := hide hown
    obtain ⟨⟨oa, oc, rfl⟩, _⟩ := id hown
    clear hown hbl
    go_wp2_with fail
    refine HO.out.mono ?_
    rintro e w1 ⟨⟨na, nc, ta, tc, rfl, hsn, hst, hfn, hft⟩, b1⟩
    unfold enV
    have hbA : Below w1.heap.size w1 (w1.alloc (.cells #[.string en.1, .slice na en.2.1.length nc, .slice ta en.2.2.length tc] 73)) := (Below.refl _ _).alloc (Nat.le_refl _) _
    have hbk : Bk (w1.alloc (.cells #[.string en.1, .slice na en.2.1.length nc, .slice ta en.2.2.length tc] 73)) w1.heap.size [.string en.1, .slice na en.2.1.length nc, .slice ta en.2.2.length tc] := Bk.new rfl
    have HB1 := hide (HB.out.trans (b1.mono HB.out.size))
    have HB2 := hide (HB1.out.trans (hbA.mono HB1.out.size))
    have HOW2 := hide ((HOW.out.later b1).later hbA)
    have HR2 : Hid (∀ r ∈ rs, EnRow (w1.alloc (.cells #[.string en.1, .slice na en.2.1.length nc, .slice ta en.2.2.length tc] 73)) (.slice oa rs.length oc) r) := fun r hr => ((HRS.out r hr).later b1).later hbA
    have hsa := hbA.size
    have hne : ∀ b, wr.heap.size ≤ b → (Value.slice oa rs.length oc).ownBlock ≠ some b := fun b hb e => by have := (HOW.out.lt b e).2; omega
    have HN2 : Hid (EnRow (w1.alloc (.cells #[.string en.1, .slice na en.2.1.length nc, .slice ta en.2.2.length tc] 73)) (.slice oa rs.length oc) (en.1, (na, nc, en.2.1), (ta, tc, en.2.2))) := ⟨hsn.later hbA (Nat.le_refl _), hst.later hbA (Nat.le_refl _), fun b off e => ⟨by have := (hfn b off e).2; omega, hne b (hfn b off e).1⟩, fun b off e => ⟨by have := (hft b off e).2; omega, hne b (hft b off e).1⟩⟩
    have c0 := hbk.get (j := 0) rfl
    have c1 := hbk.get (j := 1) rfl
    have c2 := hbk.get (j := 2) rfl
    have hlw := hbk.lt
    clear hbA hbk hsn hst b1 HO HB HOW HRS HB1 hsa hne hfn hft
    cases ok
    · have HT : Hid (rs.map enOfR = parseE S) := by
        show _ = _
        rw [HP.out, parseE_none (HNO.out rfl), List.append_nil]
      clear HP HNO HEN hlr
      go_wp2
      go_ret
      exact ⟨_, rs, rfl, HT.out, HOW2.out, HR2.out, HB2.out⟩
    · have hso := HEN.out rfl
      have HLR := hide (hlr.out hso)
      have HT : Hid (parseE S = (rs ++ [(en.1, (na, nc, en.2.1), (ta, tc, en.2.2))]).map enOfR ++ parseE re) := by
        show _ = _
        rw [HP.out, parseE_some hso]
        simp [enOfR]
      have hrl : rs.length + 1 ≤ 1000001 := by have h1 := HLN.out; have h2 := HSL.out; omega
      have HL2 : Hid (re.length + (rs ++ [(en.1, (na, nc, en.2.1), (ta, tc, en.2.2))]).length ≤ S.length) := by
        have h1 := HLN.out
        have h2 := HLR.out
        show _ ≤ _
        rw [List.length_append, List.length_singleton]; omega
      have hws := HB2.out.size
      clear HP HNO HEN hlr hso HLN
      go_upto_region 5 with (fail)
      generalize w1.alloc (.cells #[.string en.1, .slice na en.2.1.length nc, .slice ta en.2.2.length tc] 73) = W at *
      have HAL := hide fun (o : Obj) => (Below.refl W.heap.size W).alloc (Nat.le_refl _) o
      go_wp2_with (at_builtin; refine wpList_append_one encEn_len _ _ 83 i0 _ rfl rfl Tryd.underlying83 hi hz0 hz1 hz2 rfl (by decide) (by decide) (HOW2.out.alloc _) (HB2.out.alloc hws _) ?c1 ?c2 rfl (en.1, (na, nc, en.2.1), (ta, tc, en.2.2)) ⟨W.heap.size, 0, none⟩ 1 rfl ?c3 ?c4 ?_)
      case c1 => simp; omega
      case c2 => omega
      case c3 => exact news_cells W _ rfl
      case c4 => exact one_en _
      intro v' w4 ho hb hgr hat
      have hat2 := hat.imp id fun e => (⟨_, e, Nat.le_succ _⟩ : ∃ m, v'.ownBlock = some m ∧ W.heap.size ≤ m)
      have HR4 : Hid (∀ r ∈ rs ++ [(en.1, (na, nc, en.2.1), (ta, tc, en.2.2))], EnRow w4 v' r) := fun r hr => by
        rcases List.mem_append.1 hr with hr | hr
        · exact (HR2.out r hr).grown (HAL.out _) (HAL.out _).size hgr hat2
        · rw [List.mem_singleton.1 hr]
          exact HN2.out.grown (HAL.out _) (HAL.out _).size hgr hat2
      clear hgr hat hat2 HAL HR2 HN2
      go_wp2
      go_roundw
      case rel => exact ⟨re, rs ++ [(en.1, (na, nc, en.2.1), (ta, tc, en.2.2))], rfl, HL2, HT, ho, HR4, hb⟩
      case measure => (simp [strLen, tx_size]; have h1 := HLR.out; omega)
end Go.Proofs.YtkodbldfoldbjaaDoor
