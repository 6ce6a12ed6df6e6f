/- TopJournal: the law's walk. -/
import Derived.Test.YtkodbldfoldbjaaDoorJour5
import Derived.Lib.QuietBelow
set_option linter.unusedSimpArgs false
set_option linter.unusedVariables false
namespace Go.Proofs.YtkodbldfoldbjaaDoor
open Go.RowKit

/-- an entry as TopJournal takes it -/
structure EnGood (e : En) : Prop where
  kind : KindOk e.1
  ksz : e.1.size ≤ 20
  nl : e.2.1.length ≤ 10
  i64 : i64s e.2.1
  tl : e.2.2.length ≤ 5
  tsz : ∀ t ∈ e.2.2, t.size ≤ 200
theorem EnGood.ok {e : En} (h : EnGood e) : EnOk e := ⟨h.kind, h.i64, sizesOf_i64 fun t ht => by have := h.tsz t ht; omega⟩
theorem joinT_short : ∀ (T : List ByteArray), (∀ t ∈ T, t.size ≤ 200) → (joinT T).length ≤ 200 * T.length
  | [], _ => Nat.le_refl _
  | t :: T, h => by
    have h1 := h t List.mem_cons_self
    have h2 := joinT_short T fun x hx => h x (List.mem_cons_of_mem _ hx)
    rw [joinT_cons, List.length_append, List.length_cons, tl_len]
    omega
theorem EnGood.len {e : En} (h : EnGood e) : (entT e).length ≤ 2000 := by
  have h1 := numsT_len e.2.1 h.i64
  have h2 := numsT_len (sizesOf e.2.2) h.ok.sizes
  have h3 := joinT_short e.2.2 h.tsz
  have h4 := h.ksz
  have h5 := h.nl
  have h6 := h.tl
  have h7 : (sizesOf e.2.2).length = e.2.2.length := by unfold sizesOf; rw [List.length_map]
  unfold entT
  simp only [List.length_append, List.length_cons, List.length_nil, tl_len]
  omega
theorem flat_ent_len : ∀ (es : List En), (∀ e ∈ es, EnGood e) → (es.flatMap entT).length ≤ 2000 * es.length
  | [], _ => Nat.le_refl _
  | e :: es, h => by
    have h1 := (h e List.mem_cons_self).len
    have h2 := flat_ent_len es fun x hx => h x (List.mem_cons_of_mem _ hx)
    rw [List.flatMap_cons, List.length_append, List.length_cons]
    omega
theorem flat_ent_succ {es : List En} {k : Nat} {e : En} (h : es[k]? = some e) : (es.take (k + 1)).flatMap entT = (es.take k).flatMap entT ++ entT e := by
  obtain ⟨hlt, hx⟩ := List.getElem?_eq_some_iff.1 h
  rw [List.take_succ_eq_append_getElem hlt, hx, List.flatMap_append]
  simp
def endsE (es : List En) (k : Nat) : List Int := (List.range k).map fun i => (((es.take (i + 1)).flatMap entT).length : Int)
theorem endsE_len (es : List En) (k : Nat) : (endsE es k).length = k := by unfold endsE; rw [List.length_map, List.length_range]
theorem endsE_succ (es : List En) (k : Nat) : endsE es (k + 1) = endsE es k ++ [(((es.take (k + 1)).flatMap entT).length : Int)] := by
  unfold endsE; rw [List.range_succ, List.map_append]; rfl
theorem endsE_get {es : List En} {k i : Nat} (h : i < k) : (endsE es k)[i]? = some (((es.take (i + 1)).flatMap entT).length : Int) := by
  unfold endsE; rw [List.getElem?_map, List.getElem?_range h]; rfl
theorem kind_az {k : ByteArray} (h0 : 0 < k.size) (h : ∀ (i : Nat) c, i < k.size → k.data.toList[i]? = some c → 97 ≤ c.toNat ∧ c.toNat ≤ 122) : KindOk k := by
  have hm : ∀ c ∈ k.data.toList, 97 ≤ c.toNat ∧ c.toNat ≤ 122 := by
    intro c hc
    obtain ⟨i, hi⟩ := List.getElem?_of_mem hc
    have := (List.getElem?_eq_some_iff.1 hi).1
    rw [tl_len] at this
    exact h i c this hi
  refine ⟨fun e => ?_, fun hc => ?_, fun hc => ?_, fun hc => ?_⟩
  · have := tl_len k
    rw [e] at this
    simp at this; omega
  · have := hm _ hc; simp at this
  · have := hm _ hc; simp at this
  · have := hm _ hc; simp at this
set_option maxRecDepth 100000 in
set_option maxHeartbeats 8000000 in
theorem TopJournal_walk (ao : Option Addr) (ca : Nat) (L : List EnR) (cut : Int) (w : World) (hg : GW w) (hl : L.length ≤ maxLen) (hs : Sl 3 encEn w ao L) (ha : ∀ r ∈ L, EnArg w r) :
    Calls Tryd.prog 11 #[.slice ao L.length ca, .int .i64 cut] w fun e w' => e = .returned (.bool true) ∧ Below w.heap.size w w' := by
  obtain ⟨i0, hi, hz0, hz1, hz2⟩ := info_parts infoInt
  have HT1 := hide (JText_any ⟨#[97]⟩ none 0 [] none 0 [] w hg (by decide) (by simp) (by simp) (fun x h => by cases h) (fun x h => by cases h) Sl.nil Sl.nil (Nat.le_refl _))
  rw [show tx (entT (⟨#[97]⟩, [], [])) = ⟨#[97, 59, 10, 46]⟩ from rfl] at HT1
  have HG := hide hg
  have HS := hide hs
  have HA := hide ha
  unfold maxLen at hl
  clear hg hs ha
  go_enter Tryd.func11, Tryd.ntmps11
  go_wp2_with fail
  refine HT1.out.mono ?_
  rintro e w1 ⟨rfl, b1⟩
  have HB := hide b1
  clear b1 HT1
  by_cases h10 : 10 < L.length
  · have e1 : decide ((10 : Int) < (L.length : Int)) = true := by simp; omega
    go_wp2
    go_ret
    exact ⟨rfl, HB.out⟩
  have e1 : decide ((10 : Int) < (L.length : Int)) = false := by simp; omega
  obtain ⟨es, hes⟩ : ∃ es, L.map enOfR = es := ⟨_, rfl⟩
  have hesl : es.length = L.length := by rw [← hes, List.length_map]
  have HES : Hid (∀ (i : Nat) r, L[i]? = some r → es[i]? = some (enOfR r)) := fun i r h => by rw [← hes, List.getElem?_map, h]; rfl
  have hw1 := HB.out.size
  clear hes
  go_wp2_with fail
  go_loopw [5, 6, 7] (fun sv ev iv wr => ∃ k : Nat, k ≤ L.length ∧ iv = .int .i64 k ∧ sv = .string (tx ((es.take k).flatMap entT)) ∧ Hid (Own 1 encInt 3 wr w1.heap.size ev (endsE es k)) ∧ Hid (∀ (i : Nat) r, i < k → L[i]? = some r → EnGood (enOfR r)) ∧ Hid (Below w1.heap.size w1 wr)) (fun _ _ iv _ => L.length - (intOf iv).toNat)
  case atStart => exact ⟨0, by omega, rfl, (by simp [tx]), Own.nil, (fun i r h => by omega), Below.refl _ _⟩
  case round =>
    obtain ⟨k, hk, rfl, rfl, HOW, HGD, HBL⟩ := hrel
    obtain ⟨oa, oc, hov⟩ := id HOW.out.1
    rw [endsE_len] at hov
    subst hov
    have HBW := hide (HB.out.trans (HBL.out.mono HB.out.size))
    by_cases hlt : k < L.length
    · obtain ⟨b, off, r, rfl, hbw, hlk, c0, c1, c2⟩ := (HS.out.later HBW.out (Nat.le_refl _)).entry hlt
      have HAR := hide ((HA.out r (List.mem_of_getElem? hlk)).later HBW.out (Nat.le_refl _))
      have HLK := hide hlk
      obtain ⟨ks, ⟨na, nc, N⟩, ⟨ta, tc, T⟩⟩ := r
      dsimp only at c0 c1 c2
      have f1 : (0 : Int) ≤ (k : Int) ∧ (k : Int) < (L.length : Int) := by omega
      obtain ⟨f1, f2⟩ := f1
      clear hlk
      go_upto_region 11 with (fail)
      have hbA : Below wr.heap.size wr (wr.alloc (.cells #[.string ks, .slice na N.length nc, .slice ta T.length tc] 73)) := (Below.refl _ _).alloc (Nat.le_refl _) _
      have hbe : Bk (wr.alloc (.cells #[.string ks, .slice na N.length nc, .slice ta T.length tc] 73)) wr.heap.size [.string ks, .slice na N.length nc, .slice ta T.length tc] := Bk.new rfl
      replace HAR := hide (HAR.out.later hbA (Nat.le_refl _))
      replace HOW := hide (HOW.out.later hbA)
      replace HBL := hide (HBL.out.trans (hbA.mono HBL.out.size))
      replace HBW := hide (HBW.out.trans (hbA.mono HBW.out.size))
      have q0 := hbe.get (j := 0) rfl
      have q1 := hbe.get (j := 1) rfl
      have q2 := hbe.get (j := 2) rfl
      have HBE := hide hbe
      clear hbA hbe c0 c1 c2
      generalize wr.alloc (.cells #[.string ks, .slice na N.length nc, .slice ta T.length tc] 73) = W2 at *
      generalize wr.heap.size = be at *
      have hTm := HAR.out.tlen
      dsimp only at hTm
      have HLT := hide (LightTexts_any ta tc T 5 200 W2 hTm HAR.out.texts)
      obtain ⟨lt, hlt2⟩ : ∃ lt, lightTexts T 5 200 = lt := ⟨_, rfl⟩
      rw [hlt2] at HLT
      have HLT2 := hide hlt2
      clear hlt2 hTm
      by_cases hk1 : ks.size < 1
      · have g1 : decide ((ks.size : Int) < 1) = true := by simp; omega
        go_wp2
        go_ret
        exact ⟨rfl, HBW.out⟩
      have g1 : decide ((ks.size : Int) < 1) = false := by simp; omega
      by_cases hk2 : 20 < ks.size
      · have g2 : decide ((20 : Int) < (ks.size : Int)) = true := by simp; omega
        go_wp2
        go_ret
        exact ⟨rfl, HBW.out⟩
      have g2 : decide ((20 : Int) < (ks.size : Int)) = false := by simp; omega
      by_cases hk3 : 10 < N.length
      · have g3 : decide ((10 : Int) < (N.length : Int)) = true := by simp; omega
        go_wp2
        go_ret
        exact ⟨rfl, HBW.out⟩
      have g3 : decide ((10 : Int) < (N.length : Int)) = false := by simp; omega
      go_wp2_with fail
      refine HLT.out.mono ?_
      rintro e w3 ⟨rfl, rfl⟩
      clear HLT
      cases lt
      · go_wp2
        go_ret
        exact ⟨rfl, HBW.out⟩
      obtain ⟨hT5, hTs⟩ := lightTexts_of HLT2.out
      have HTS := hide hTs
      obtain ⟨KL, rfl⟩ : ∃ KL, ks = tx KL := ⟨_, (tx_of ks).symm⟩
      clear HLT2 hTs g1 g2 g3
      have hks : (tx KL).size = KL.length := tx_size KL
      rw [hks] at hk1 hk2
      clear hks
      obtain ⟨W3, rfl⟩ : ∃ w3, w3 = W2 := ⟨_, rfl⟩
      go_wp2_with fail
      go_loopw [9] (fun iv wi => ∃ j : Nat, j ≤ KL.length ∧ iv = .int .i64 j ∧ Hid (∀ (i : Nat) c, i < j → KL[i]? = some c → 97 ≤ c.toNat ∧ c.toNat ≤ 122) ∧ W3 = wi) (fun iv _ => KL.length - (intOf iv).toNat)
      case atStart => exact ⟨0, by omega, rfl, (fun i c h => by omega), rfl⟩
      case round =>
        obtain ⟨j, hj, rfl, HAZ, rfl⟩ := hrel
        by_cases hlt3 : j < KL.length
        · obtain ⟨c, hc⟩ : ∃ c, KL[j]? = some c := ⟨_, List.getElem?_eq_getElem hlt3⟩
          have hp : j < (tx KL).size := by rw [tx_size]; exact hlt3
          have hat : (tx KL)[j] = c := tx_at hc hp
          have e2 : decide (j < (tx KL).size) = true := by simpa using hp
          have g1 : (0 : Int) ≤ (j : Int) ∧ (j : Int) < ((tx KL).size : Int) := by omega
          obtain ⟨g1, g2⟩ := g1
          have HC := hide hc
          clear hc
          by_cases hc1 : c.toNat < 97
          · have g3 : decide ((c.toNat : Int) < 97) = true := by simp; omega
            go_wp2
            go_ret
            exact ⟨rfl, HBW.out⟩
          have g3 : decide ((c.toNat : Int) < 97) = false := by simp; omega
          by_cases hc2 : 122 < c.toNat
          · have g4 : decide ((122 : Int) < (c.toNat : Int)) = true := by simp; omega
            go_wp2
            go_ret
            exact ⟨rfl, HBW.out⟩
          have g4 : decide ((122 : Int) < (c.toNat : Int)) = false := by simp; omega
          have HAZ2 : Hid (∀ (i : Nat) c, i < j + 1 → KL[i]? = some c → 97 ≤ c.toNat ∧ c.toNat ≤ 122) := fun i d hi hd => by
            by_cases e : i = j
            · subst e; rw [HC.out] at hd; cases hd; omega
            · exact HAZ.out i d (by omega) hd
          clear hc1 hc2
          go_wp2
          go_roundw
          case rel => exact ⟨j + 1, by omega, by go_num, HAZ2, trivial⟩
          case measure => (simp [intOf]; try omega)
        · have e2 : decide (j < (tx KL).size) = false := by rw [tx_size]; simpa using hlt3
          have e2' : decide ((j : Int) < ((tx KL).size : Int)) = false := by rw [tx_size]; simp; omega
          have HGE : Hid (EnGood (tx KL, N, T)) := by
            refine ⟨kind_az (by rw [tx_size]; omega) (fun i c hi hc => ?_), by rw [tx_size]; omega, by dsimp only; omega, HAR.out.i64, by dsimp only; omega, fun t ht => by have := HTS.out t ht; omega⟩
            rw [tx_list] at hc
            rw [tx_size] at hi
            exact HAZ.out i c (by omega) hc
          have HEK := hide (HES.out k _ HLK.out)
          dsimp only [enOfR] at HEK
          have HSU := hide (flat_ent_succ HEK.out)
          have HJT := hide (JText_any (tx KL) na nc N ta tc T W3 (HG.out.later HBW.out (Nat.le_refl _)) (by have := HGE.out.ksz; dsimp only at this; omega) (by omega) (by omega) HAR.out.i64 (fun t ht => by have := HTS.out t ht; omega) HAR.out.nums HAR.out.texts HAR.out.cap)
          have hEl := HGE.out.len
          have hFl : ((es.take k).flatMap entT).length ≤ 2000 * k := by
            have h1 := flat_ent_len (es.take k) (fun e he => by
              obtain ⟨i, hi⟩ := List.getElem?_of_mem he
              have hik : i < k := by have := (List.getElem?_eq_some_iff.1 hi).1; rw [List.length_take] at this; omega
              rw [List.getElem?_take_of_lt hik] at hi
              have hiL : i < L.length := by omega
              have := HES.out i _ (List.getElem?_eq_getElem hiL)
              rw [hi] at this
              cases this
              exact HGD.out i _ hik (List.getElem?_eq_getElem hiL))
            rw [List.length_take] at h1
            omega
          have HGD2 : Hid (∀ (i : Nat) r, i < k + 1 → L[i]? = some r → EnGood (enOfR r)) := fun i r hi hr => by
            by_cases e : i = k
            · subst e; rw [HLK.out] at hr; cases hr; exact HGE.out
            · exact HGD.out i r (by omega) hr
          have HEN := hide (endsE_succ es k)
          have HTE : Hid (tx ((es.take k).flatMap entT) ++ tx (entT (tx KL, N, T)) = tx ((es.take (k + 1)).flatMap entT)) := by
            show _ = _
            rw [HSU.out]
            apply tl_inj
            rw [tl, tl, tx_list]
            simp [tx, ByteArray.data_append]
          have HSZ : Hid ((tx ((es.take (k + 1)).flatMap entT)).size = ((es.take (k + 1)).flatMap entT).length) := tx_size _
          have hsz1 : (tx ((es.take k).flatMap entT)).size ≤ 2000 * k := by rw [tx_size]; exact hFl
          have hsz2 : (tx (entT (tx KL, N, T))).size ≤ 2000 := by rw [tx_size]; exact hEl
          generalize tx (entT (tx KL, N, T)) = TE at *
          generalize tx ((es.take k).flatMap entT) = TF at *
          have n1 : ¬ 9223372036854775807 < TF.size + TE.size := by omega
          clear HAZ HGE HEK HSU hEl hFl HGD HAR HTS hk1 hk2 hk3
          go_wp2_with fail
          refine HJT.out.mono ?_
          rintro e w5 ⟨rfl, b5⟩
          have HBW5 := hide (HBW.out.trans (b5.mono HBW.out.size))
          have HBL5 := hide (HBL.out.trans (b5.mono HBL.out.size))
          have HOW5 := HOW.out.later b5
          have hws := HBL5.out.size
          clear b5 HJT
          go_upto_region 19 with (fail)
          rw [HTE.out]
          generalize hTN : tx ((es.take (k + 1)).flatMap entT) = TN at *
          have HTN := hide hTN
          clear hTN
          have hlen : (endsE es k).length = k := endsE_len es k
          go_wp2_with (at_builtin; refine wpList_append_one encInt_len _ _ 61 i0 _ rfl rfl Tryd.underlying61 hi hz0 hz1 hz2 rfl (by decide) (by decide) (HOW5.alloc _) (HBL5.out.alloc hws _) ?c1 ?c2 rfl (TN.size : Int) ⟨w5.heap.size, 0, none⟩ 1 rfl ?c3 ?c4 ?_)
          case c1 => simp; omega
          case c2 => rw [hlen]; omega
          case c3 => exact news_cells w5 _ rfl
          case c4 => exact one_int _
          intro v' w6 ho hb _ _
          rw [HSZ.out, ← HEN.out] at ho
          have HO6 := hide ho
          clear ho
          go_wp2
          go_roundw
          case rel => exact ⟨k + 1, by omega, by go_num, by rw [HTN.out], HO6, HGD2, hb⟩
          case measure => (simp [intOf]; try omega)
    · obtain rfl : k = L.length := by omega
      have hte : es.take L.length = es := by rw [← hesl, List.take_length]
      have HALL : Hid (∀ e ∈ es, EnGood e) := fun e he => by
        obtain ⟨i, hi⟩ := List.getElem?_of_mem he
        have hiL : i < L.length := by have := (List.getElem?_eq_some_iff.1 hi).1; omega
        have h1 := HES.out i _ (List.getElem?_eq_getElem hiL)
        rw [hi] at h1
        cases h1
        exact HGD.out i _ hiL (List.getElem?_eq_getElem hiL)
      have hF1 := flat_ent_len es HALL.out
      have HCUT := hide fun (n m : Nat) (h1 : m ≤ es.length) h2 h3 => parseE_cut (l := es) (fun e he => (HALL.out e he).ok) (n := n) (m := m) h1 h2 h3
      rw [hte]
      clear hte HGD
      generalize es.flatMap entT = F at *
      have hFl : F.length ≤ 20000 := by omega
      have f9 : decide (L.length < L.length) = false := by simp
      clear hF1
      have hFz : (tx F).size = F.length := tx_size F
      obtain ⟨cp, hcp⟩ : ∃ cp, decide (0 < cut) = cp := ⟨_, rfl⟩
      go_upto_if 83 with (fail)
      go_cut [10] from 84 to 88 (fun v wc => ∃ n : Nat, n ≤ F.length ∧ v = .int .i64 n ∧ wr = wc)
      case first =>
        cases cp
        case true =>
          have hcut : 0 < cut := by simpa using hcp
          clear hcp
          obtain ⟨cn, rfl⟩ : ∃ cn : Nat, cut = (cn : Int) := ⟨cut.toNat, by omega⟩
          have g2 : IntKind.i64.wrap ((F.length : Int) + 1) = (F.length : Int) + 1 := IntWalk.i64_in _ (by omega)
          have g3 : ((F.length : Int) + 1 == 0) = false := by rw [beq_eq_false_iff_ne]; omega
          have g4 : ¬ (F.length : Int) + 1 = 0 := by omega
          have hm : cn % (F.length + 1) < F.length + 1 := Nat.mod_lt _ (by omega)
          have g5 : Int.tmod (cn : Int) ((F.length : Int) + 1) = ((cn % (F.length + 1) : Nat) : Int) := by
            rw [show (F.length : Int) + 1 = ((F.length + 1 : Nat) : Int) by omega]
            rfl
          go_wp2
          go_meet
          exact ⟨cn % (F.length + 1), by omega, by first | rfl | (rw [g5]), rfl⟩
        case false =>
          go_wp2
          go_meet
          exact ⟨F.length, Nat.le_refl _, rfl, rfl⟩
      case rest =>
        obtain ⟨n, hn, rfl, rfl⟩ := hcut
        have hx1 : (tx F).extract 0 n = tx (F.take n) := tx_extT F n
        have hx2 : (0 : Int) ≤ (n : Int) ∧ (n : Int) ≤ (F.length : Int) := by omega
        obtain ⟨hx2, hx3⟩ := hx2
        have HPE := hide (ParseE_any (tx (F.take n)) wr (HG.out.later HBW.out (Nat.le_refl _)) (by rw [tx_size, List.length_take]; omega))
        unfold ParseEPost at HPE
        rw [tx_list] at HPE
        go_wp2_with fail
        refine HPE.out.mono ?_
        rintro e w6 ⟨v6, rs, rfl, hrs, ho6, hrow6, b6⟩
        have HRS := hide hrs
        have HO6 := hide ho6
        have HR6 := hide hrow6
        obtain ⟨xa, xc, rfl⟩ := id ho6.1
        have HBW6 := hide (HBW.out.trans (b6.mono HBW.out.size))
        have HOW6 := hide (HOW.out.later b6)
        clear hrs ho6 hrow6 b6 HPE
        go_upto_block 4 with (fail)
        have HMQ := hide (HCUT.out n)
        go_cut [12] from 93 to 106 (fun v wc => ∃ m : Nat, m ≤ L.length ∧ v = .int .i64 m ∧ Hid (rs.map enOfR = es.take m) ∧ w6 = wc)
        case first =>
          go_wp2_with fail
          go_loopw [12] (fun v wr => ∃ m : Nat, m ≤ L.length ∧ v = .int .i64 m ∧ Hid (((es.take m).flatMap entT).length ≤ n) ∧ w6 = wr) (fun v _ => L.length - (intOf v).toNat)
          case atStart => exact ⟨0, by omega, rfl, (by show _ ≤ _; simp), rfl⟩
          case round =>
            obtain ⟨m, hm, rfl, HM, rfl⟩ := hrel
            by_cases hlt : m < L.length
            · have e2 : decide (m < L.length) = true := by simpa using hlt
              have hsl : Sl 1 encInt w6 oa (endsE es L.length) := by
                have h := HOW6.out
                have hl2 := endsE_len es L.length
                rw [← hl2] at h
                have h2 := (show Own 1 encInt 3 w6 w1.heap.size (.slice oa (endsE es (endsE es L.length).length).length oc) (endsE es (endsE es L.length).length) by rw [endsE_len]; exact h).sl encInt_len
                rw [hl2] at h2
                exact h2
              obtain ⟨eb, eoff, x, rfl, hew, hek, d0⟩ := hsl.int (k := m) (by rw [endsE_len]; exact hlt)
              rw [endsE_get hlt] at hek
              obtain rfl := Option.some.inj hek
              generalize hEm : ((es.take (m + 1)).flatMap entT).length = Em at *
              have HEM := hide hEm
              have f1 : (0 : Int) ≤ (m : Int) ∧ (m : Int) < (L.length : Int) := by omega
              obtain ⟨f1, f2⟩ := f1
              clear hek hEm hsl
              by_cases hle : Em ≤ n
              · have e3 : decide (Em ≤ n) = true := by simpa using hle
                have e3' : decide ((Em : Int) ≤ (n : Int)) = true := by simp; omega
                have HM2 : Hid (((es.take (m + 1)).flatMap entT).length ≤ n) := by show _ ≤ _; rw [HEM.out]; exact hle
                go_wp2
                go_roundw
                case rel => exact ⟨m + 1, by omega, by go_num, HM2, trivial⟩
                case measure => (simp [intOf]; try omega)
              · have e3 : decide (Em ≤ n) = false := by simpa using hle
                have e3' : decide ((Em : Int) ≤ (n : Int)) = false := by simp; omega
                have HX : Hid (rs.map enOfR = es.take m) := by
                  show _ = _
                  rw [HRS.out]
                  exact HMQ.out m (by omega) HM.out (fun e _ => by rw [HEM.out]; omega)
                go_wp2
                go_meet
                exact ⟨m, hm, rfl, HX, rfl⟩
            · have e2 : decide (m < L.length) = false := by simpa using hlt
              have HX : Hid (rs.map enOfR = es.take m) := by
                show _ = _
                rw [HRS.out]
                exact HMQ.out m (by omega) HM.out (fun e he => by have := (List.getElem?_eq_some_iff.1 he).1; omega)
              go_wp2
              go_meet
              exact ⟨m, hm, rfl, HX, rfl⟩
        case rest =>
          obtain ⟨m, hm, rfl, HX, rfl⟩ := hcut
          clear HMQ HCUT HRS
          have hrl : rs.length = m := by
            have := congrArg List.length HX.out
            rw [List.length_map, List.length_take] at this
            omega
          subst hrl
          have e9 : (rs.length != rs.length) = false := by simp
          go_wp2_with fail
          go_loopw [13] (fun v wr => ∃ j : Nat, j ≤ rs.length ∧ v = .int .i64 j ∧ Below w6.heap.size w6 wr) (fun v _ => rs.length - (intOf v).toNat)
          case atStart => exact ⟨0, by omega, rfl, Below.refl _ _⟩
          case round =>
            obtain ⟨j, hj, rfl, hbl⟩ := hrel
            have HBq := hide (HBW6.out.trans (hbl.mono HBW6.out.size))
            have HBL := hide hbl
            by_cases hlt : j < rs.length
            · obtain ⟨xb, xoff, r1, rfl, hxw, hx1, c0, c1, c2⟩ := ((HO6.out.sl encEn_len).later hbl (Nat.le_refl _)).entry hlt
              obtain ⟨lb, loff, r2, rfl, hlw, hx2, d0, d1, d2⟩ := (HS.out.later HBq.out (Nat.le_refl _)).entry (show j < L.length by omega)
              have hq : (rs.map enOfR)[j]? = (es.take rs.length)[j]? := by rw [HX.out]
              rw [List.getElem?_map, hx1, List.getElem?_take_of_lt hlt, HES.out j r2 hx2] at hq
              have hR1 := (HR6.out r1 (List.mem_of_getElem? hx1)).later hbl
              have hR2 := (HA.out r2 (List.mem_of_getElem? hx2)).later HBq.out (Nat.le_refl _)
              have hge := (HALL.out _ (List.mem_of_getElem? (HES.out j _ hx2))).tl
              obtain ⟨k1, ⟨na1, nc1, N1⟩, ⟨ta1, tc1, T1⟩⟩ := r1
              obtain ⟨k2, ⟨na2, nc2, N2⟩, ⟨ta2, tc2, T2⟩⟩ := r2
              simp only [enOfR, Option.map_some, Option.some.injEq, Prod.mk.injEq] at hq
              obtain ⟨rfl, rfl, rfl⟩ := hq
              have HTL : Hid (T1.length ≤ 1000000000) := by
                have h1 : T1.length ≤ 5 := hge
                show _ ≤ _
                omega
              have HSN := hide fun w' (hb : Below wr.heap.size wr w') => SameNumbers_refl na1 na2 nc1 nc2 N1 w' hR2.nlen (hR1.nums.later hb (Nat.le_refl _)) (hR2.nums.later hb (Nat.le_refl _))
              have HST := hide fun w' (hb : Below wr.heap.size wr w') => SameTexts_refl ta1 ta2 tc1 tc2 T1 w' HTL.out (hR1.texts.later hb (Nat.le_refl _)) (hR2.texts.later hb (Nat.le_refl _))
              try dsimp only at c0 c1 c2 d0 d1 d2
              try dsimp only at HSN HST
              have f1 : (0 : Int) ≤ (j : Int) ∧ (j : Int) < (rs.length : Int) ∧ (j : Int) < (L.length : Int) := by omega
              obtain ⟨f1, f2, f3⟩ := f1
              have k0' := cell_regrown c0
              have k1' := cell_regrown c1
              have k2' := cell_regrown c2
              have l0' := cell_regrown d0
              have l1' := cell_regrown d1
              have l2' := cell_regrown d2
              have hkk := beqq k1
              clear hx1 hx2 hR1 hR2 hbl hge
              go_upto_region 32 with (fail)
              refine wp_region_quiet_below (by kernel_rfl) (by kernel_rfl) ?_
              repeat (go_big_quiet_step (first
                | (go_at_call 60; exact Calls.regrown_of (HSN.out _ (below_regrown _ _ _)))
                | (go_at_call 17; exact Calls.regrown_of (HST.out _ (below_regrown _ _ _)))))
              refine wpQuiet_nil ?_
              intro _ hw'
              obtain ⟨⟨dq, osq⟩, hw''⟩ := hw'
              subst hw''
              have HBL2 := hide (HBL.out.trans ((below_regrown wr dq osq).mono HBL.out.size))
              clear k0' k1' k2' l0' l1' l2' HSN HST
              go_wp2
              go_roundw
              case rel => exact ⟨j + 1, by omega, by go_num, HBL2.out⟩
              case measure => (simp [intOf]; try omega)
            · have e2 : decide (j < rs.length) = false := by simpa using hlt
              clear hbl
              go_wp2
              go_ret
              exact ⟨rfl, HBq.out⟩
end Go.Proofs.YtkodbldfoldbjaaDoor
