/- The journal: the reference's one entry. -/
import Derived.Test.YtkodbldfoldbjaaDoorJour3
set_option linter.unusedSimpArgs false
set_option linter.unusedVariables false
namespace Go.Proofs.YtkodbldfoldbjaaDoor
open Go.RowKit

def FirstPost (S : List UInt8) (w : World) (e : Ending) (w' : World) : Prop :=
  (∃ na nc ta tc, e = .returned (.tuple #[enV (enOf S) na nc ta tc, .int .i64 ((S.length : Int) - (restOf S).length), .bool (okE S)]) ∧ Sl 1 encInt w' na (enOf S).2.1 ∧ Sl 1 encS w' ta (enOf S).2.2 ∧ Fresh w w' na ∧ Fresh w w' ta) ∧ Below w.heap.size w w'
theorem FirstPost.bad {S : List UInt8} {w w' : World} (h : oneE S = none) (hb : Below w.heap.size w w') : FirstPost S w (.returned (.tuple #[.agg #[.string ⟨#[]⟩, .slice none 0 0, .slice none 0 0], .int .i64 0, .bool false])) w' := by
  unfold FirstPost enOf restOf okE
  rw [h]
  refine ⟨⟨none, 0, none, 0, ?_, Sl.nil, Sl.nil, Fresh.none, Fresh.none⟩, hb⟩
  rw [show (S.length : Int) - (S.length : Int) = 0 by omega]
  rfl
theorem FirstPost.good {S r : List UInt8} {w w' : World} {k : ByteArray} {N : List Int} {T : List ByteArray} {na ta : Option Addr} {nc tc : Nat} {n : Int} (h : oneE S = some ((k, N, T), r)) (he : n = (S.length : Int) - r.length) (hn : Sl 1 encInt w' na N) (ht : Sl 1 encS w' ta T) (fn : Fresh w w' na) (ft : Fresh w w' ta) (hb : Below w.heap.size w w') :
    FirstPost S w (.returned (.tuple #[.agg #[.string k, .slice na N.length nc, .slice ta T.length tc], .int .i64 n, .bool true])) w' := by
  subst he
  unfold FirstPost enOf restOf okE
  rw [h]
  exact ⟨⟨na, nc, ta, tc, rfl, hn, ht, fn, ft⟩, hb⟩
theorem cut_upto {l : List UInt8} {n : Nat} (h : (32 : UInt8) ∉ l.take n) (he : l.length ≤ n ∨ l[n]? = some 32) : (cutAt 32 l).1 = l.take n := by
  rcases he with he | he
  · rw [List.take_of_length_le he] at h ⊢
    rw [cutAt_no h]
  · obtain ⟨hlt, hx⟩ := List.getElem?_eq_some_iff.1 he
    conv => lhs; rw [← List.take_append_drop n l, List.drop_eq_getElem_cons hlt, hx]
    rw [cutAt_yes h]
theorem tx_part {R : List UInt8} {a n : Nat} (h : a + n ≤ R.length) : (tx R).extract a (a + n) = tx ((R.drop a).take n) := by
  apply tl_inj
  rw [tl, tl, tx_list]
  simp only [tx, ByteArray.data_extract, List.extract_toArray, List.extract_eq_take_drop]
  rw [show a + n - a = n by omega]
set_option maxRecDepth 100000 in
set_option maxHeartbeats 8000000 in
theorem First_any (s : ByteArray) (w : World) (hs : s.size ≤ 1000000) :
    Calls Tryd.prog 53 #[.string s] w (FirstPost s.data.toList w) := by
  obtain ⟨i0, hi, hz0', hz1', hz2'⟩ := info_parts infoStr
  have hsl := tl_len s
  obtain ⟨S, hS⟩ : ∃ S, s.data.toList = S := ⟨_, rfl⟩
  obtain rfl : s = tx S := by rw [← hS, tx_of]
  rw [tx_list]
  rw [tx_list] at hsl
  clear hS
  obtain ⟨H, R, o1, h1⟩ : ∃ H R o1, cutAt 10 S = (H, R, o1) := ⟨_, _, _, rfl⟩
  obtain ⟨Lf, Rt, o2, h2⟩ : ∃ Lf Rt o2, cutAt 59 H = (Lf, Rt, o2) := ⟨_, _, _, rfl⟩
  have HE := hide fun K h3 => oneE_parts (K := K) h1 h2 h3
  have l1 := (cutAt_len 10 S).1
  have l1' := (cutAt_len 10 S).2
  have l2 := (cutAt_len 59 H).1
  rw [h1] at l1 l1'
  rw [h2] at l2
  dsimp only at l1 l1' l2
  have HLN := hide l1'
  have hb1 : Below w.heap.size w (w.alloc (.cells #[.string ⟨#[]⟩, .slice none 0 0, .slice none 0 0] 77)) := (Below.refl _ _).alloc (Nat.le_refl _) _
  have hbk : Bk (w.alloc (.cells #[.string ⟨#[]⟩, .slice none 0 0, .slice none 0 0] 77)) w.heap.size [.string ⟨#[]⟩, .slice none 0 0, .slice none 0 0] := Bk.new rfl
  have HC1 := hide fun w' => UpTo_any (tx S) 10 w' (by omega)
  have HC2 := hide fun w' => UpTo_any (tx H) 59 w' (by rw [tx_size]; omega)
  simp only [tx_list, h1, h2] at HC1 HC2
  have HN2 := hide fun w' => figures_any (tx Rt) w' (by rw [tx_size]; omega)
  unfold NumsPost numsV at HN2
  simp only [tx_list] at HN2
  have HZQ : Hid (((numsS Rt).getD []).length ≤ 1000000) := by have := numsV_len Rt; show _ ≤ _; omega
  generalize hq2 : numsS Rt = q2 at *
  have HRL : Hid (R.length ≤ 1000000) := by show _ ≤ _; omega
  have HHL : Hid (H.length ≤ 1000000) := by show _ ≤ _; omega
  have hLf : Lf.length ≤ 1000000 := by omega
  have HB := hide hb1
  have HBK := hide hbk
  clear hsl h1 h2 l1 l1' l2 hs hb1 hbk hq2
  go_enter Tryd.func53, Tryd.ntmps53
  go_wp2_with fail
  generalize w.alloc (.cells #[.string ⟨#[]⟩, .slice none 0 0, .slice none 0 0] 77) = W at *
  refine (HC1.out _).mono ?_
  rintro e w1 ⟨rfl, b1⟩
  replace HB := hide (HB.out.trans (b1.mono HB.out.size))
  replace HBK := hide (HBK.out.later b1)
  clear b1 HC1
  go_wp2_with fail
  refine (HC2.out _).mono ?_
  rintro e w2 ⟨rfl, b2⟩
  replace HB := hide (HB.out.trans (b2.mono HB.out.size))
  replace HBK := hide (HBK.out.later b2)
  clear b2 HC2
  cases o1
  · have HT : Hid (oneE S = none) := by show _ = _; rw [HE.out _ rfl, if_neg (by simp)]
    have hbk9 := HBK.out
    have c0 := hbk9.get (j := 0) rfl
    have c1 := hbk9.get (j := 1) rfl
    have c2 := hbk9.get (j := 2) rfl
    have z0 := hbk9.fz 0
    have z1 := hbk9.fz 1
    have z2 := hbk9.fz 2
    have hk9 := hbk9.set3 (.string ⟨#[]⟩) (.slice none 0 0) (.slice none 0 0)
    have f0 := hk9.get (j := 0) rfl
    have f1 := hk9.get (j := 1) rfl
    have f2 := hk9.get (j := 2) rfl
    have y0 := hk9.fz 0
    have y1 := hk9.fz 1
    have y2 := hk9.fz 2
    have HB9 := hide (below_set3 (.string ⟨#[]⟩) (.slice none 0 0) (.slice none 0 0) HB.out (Nat.le_refl w.heap.size))
    clear hbk9 hk9
    go_wp2
    exact bodyPost_ret (v := .tuple #[.agg #[.string ⟨#[]⟩, .slice none 0 0, .slice none 0 0], .int .i64 0, .bool false]) (by simp [results, Tryd.results53, go_sem, f0, f1, f2, y0, y1, y2]) rfl (FirstPost.bad HT.out HB9.out)
  cases o2
  · have HT : Hid (oneE S = none) := by show _ = _; rw [HE.out _ rfl, if_neg (by simp)]
    have hbk9 := HBK.out
    have c0 := hbk9.get (j := 0) rfl
    have c1 := hbk9.get (j := 1) rfl
    have c2 := hbk9.get (j := 2) rfl
    have z0 := hbk9.fz 0
    have z1 := hbk9.fz 1
    have z2 := hbk9.fz 2
    have hk9 := hbk9.set3 (.string ⟨#[]⟩) (.slice none 0 0) (.slice none 0 0)
    have f0 := hk9.get (j := 0) rfl
    have f1 := hk9.get (j := 1) rfl
    have f2 := hk9.get (j := 2) rfl
    have y0 := hk9.fz 0
    have y1 := hk9.fz 1
    have y2 := hk9.fz 2
    have HB9 := hide (below_set3 (.string ⟨#[]⟩) (.slice none 0 0) (.slice none 0 0) HB.out (Nat.le_refl w.heap.size))
    clear hbk9 hk9
    go_wp2
    exact bodyPost_ret (v := .tuple #[.agg #[.string ⟨#[]⟩, .slice none 0 0, .slice none 0 0], .int .i64 0, .bool false]) (by simp [results, Tryd.results53, go_sem, f0, f1, f2, y0, y1, y2]) rfl (FirstPost.bad HT.out HB9.out)
  go_upto_block 0 with (fail)
  go_cut [11] from 38 to 49 (fun nv wc => ∃ n : Nat, n ≤ Lf.length ∧ nv = .int .i64 n ∧ Hid ((cutAt 32 Lf).1 = Lf.take n) ∧ w2 = wc)
  case first =>
    go_wp2_with fail
    go_loopw [11] (fun i wr => ∃ n : Nat, n ≤ Lf.length ∧ i = .int .i64 n ∧ Hid ((32 : UInt8) ∉ Lf.take n) ∧ w2 = wr) (fun i _ => Lf.length - (intOf i).toNat)
    case atStart => exact ⟨0, by omega, rfl, (by show _ ∉ _; simp), rfl⟩
    case round =>
      obtain ⟨n, hn, rfl, HNI, rfl⟩ := hrel
      by_cases hlt : n < Lf.length
      · obtain ⟨c, hc⟩ : ∃ c, Lf[n]? = some c := ⟨_, List.getElem?_eq_getElem hlt⟩
        have hp : n < (tx Lf).size := by rw [tx_size]; exact hlt
        have hat : (tx Lf)[n] = c := tx_at hc hp
        have e2 : decide (n < (tx Lf).size) = true := by simpa using hp
        have f1 : (0 : Int) ≤ (n : Int) ∧ (n : Int) < ((tx Lf).size : Int) := by omega
        obtain ⟨f1, f2⟩ := f1
        by_cases hc32 : c = 32
        · subst hc32
          have g2 : (((32 : UInt8).toNat : Int) == 32) = true := rfl
          have HKK : Hid ((cutAt 32 Lf).1 = Lf.take n) := cut_upto HNI.out (.inr hc)
          clear hc
          go_wp2
          go_meet
          exact ⟨n, hn, rfl, HKK, rfl⟩
        · have g2 : ((c.toNat : Int) == 32) = false := by
            rw [beq_eq_false_iff_ne]; intro e; exact hc32 (UInt8.toNat_inj.1 (by show c.toNat = 32; omega))
          have HNI2 : Hid ((32 : UInt8) ∉ Lf.take (n + 1)) := by
            obtain ⟨h3, h4⟩ := List.getElem?_eq_some_iff.1 hc
            show _ ∉ _
            rw [List.take_succ_eq_append_getElem h3, h4, List.mem_append, not_or]
            exact ⟨HNI.out, by simp; exact fun e => hc32 e.symm⟩
          clear hc hc32
          go_wp2
          go_roundw
          case rel => exact ⟨n + 1, by omega, by go_num, HNI2, trivial⟩
          case measure => (simp [intOf]; try omega)
      · have e2 : decide (n < (tx Lf).size) = false := by rw [tx_size]; simpa using hlt
        have e2' : decide ((n : Int) < ((tx Lf).size : Int)) = false := by rw [tx_size]; simp; omega
        have HKK : Hid ((cutAt 32 Lf).1 = Lf.take n) := cut_upto HNI.out (.inl (by omega))
        go_wp2
        go_meet
        exact ⟨n, hn, rfl, HKK, rfl⟩
  case rest =>
    obtain ⟨n, hn, rfl, HK, rfl⟩ := hcut
    replace HE := hide (HE.out (Lf.take n) HK.out)
    rw [show (Lf.take n).length = n by rw [List.length_take]; omega] at HE
    have hext : (tx Lf).extract 0 n = tx (Lf.take n) := tx_extT Lf n
    have hext2 : (tx Lf).extract n (tx Lf).size = tx (Lf.drop n) := tx_extD Lf n
    have hx3 : (n : Int) ≤ ((tx Lf).size : Int) := by rw [tx_size]; omega
    have hx4 : n ≤ (tx Lf).size := by rw [tx_size]; omega
    have hKn : Hid (Lf.take n = [] ↔ n = 0 ∨ Lf = []) := by
      show _ ↔ _
      rw [List.take_eq_nil_iff]
    have HN1 := hide fun w' => figures_any (tx (Lf.drop n)) w' (by rw [tx_size, List.length_drop]; omega)
    unfold NumsPost numsV at HN1
    simp only [tx_list] at HN1
    generalize hq1 : numsS (Lf.drop n) = q1 at *
    clear hq1
    go_upto_region 9 with (fail)
    have hb6 : Below w2.heap.size w2 (w2.alloc (Obj.cells #[.string (tx (Lf.take n)), .slice none 0 0, .slice none 0 0] 77)) := (Below.refl _ _).alloc (Nat.le_refl _) _
    have hbe : Bk (w2.alloc (Obj.cells #[.string (tx (Lf.take n)), .slice none 0 0, .slice none 0 0] 77)) w2.heap.size [.string (tx (Lf.take n)), .slice none 0 0, .slice none 0 0] := Bk.new rfl
    have HBE := hide hbe
    have HBG : Hid (w.heap.size < w2.heap.size) := HBK.out.lt
    have HLE := hide hbe.lt
    replace HB := hide (HB.out.trans (hb6.mono HB.out.size))
    replace HBK := hide (HBK.out.later hb6)
    generalize hw3 : w2.alloc (Obj.cells #[.string (tx (Lf.take n)), .slice none 0 0, .slice none 0 0] 77) = w3 at *
    generalize w2.heap.size = be at *
    clear hb6 hbe hw3 hext
    go_wp2_with fail
    refine (HN1.out _).mono ?_
    rintro e w4 ⟨⟨na, nc, rfl, on⟩, b4⟩
    have HON := hide on
    have HLO4 : Hid (be < w3.heap.size) := HLE.out
    replace HB := hide (HB.out.trans (b4.mono HB.out.size))
    replace HBK := hide (HBK.out.later b4)
    replace HBE := hide (HBE.out.later b4)
    clear b4 HN1 on hext2
    go_wp2_with fail
    refine (HN2.out _).mono ?_
    rintro e w5 ⟨⟨za, zc, rfl, oz⟩, b5⟩
    have HOZ := hide oz
    have HLO5 : Hid (be < w4.heap.size) := HBE.out.lt
    replace HB := hide (HB.out.trans (b5.mono HB.out.size))
    replace HBK := hide (HBK.out.later b5)
    replace HON := hide (HON.out.later b5)
    replace HBE := hide (HBE.out.later b5)
    clear b5 HN2 oz hx3 hx4
    cases q1
    · have HT : Hid (oneE S = none) := by show _ = _; rw [HE.out]; split <;> rfl
      cases q2
      all_goals
        dsimp only [Option.isSome, Option.getD]
        have hbk9 := HBK.out
        have c0 := hbk9.get (j := 0) rfl
        have c1 := hbk9.get (j := 1) rfl
        have c2 := hbk9.get (j := 2) rfl
        have z0 := hbk9.fz 0
        have z1 := hbk9.fz 1
        have z2 := hbk9.fz 2
        have hk9 := hbk9.set3 (.string ⟨#[]⟩) (.slice none 0 0) (.slice none 0 0)
        have f0 := hk9.get (j := 0) rfl
        have f1 := hk9.get (j := 1) rfl
        have f2 := hk9.get (j := 2) rfl
        have y0 := hk9.fz 0
        have y1 := hk9.fz 1
        have y2 := hk9.fz 2
        have HB9 := hide (below_set3 (.string ⟨#[]⟩) (.slice none 0 0) (.slice none 0 0) HB.out (Nat.le_refl w.heap.size))
        clear hbk9 hk9
        go_wp2
        exact bodyPost_ret (v := .tuple #[.agg #[.string ⟨#[]⟩, .slice none 0 0, .slice none 0 0], .int .i64 0, .bool false]) (by simp [results, Tryd.results53, go_sem, f0, f1, f2, y0, y1, y2]) rfl (FirstPost.bad HT.out HB9.out)
    rename_i N
    cases q2
    · have HT : Hid (oneE S = none) := by show _ = _; rw [HE.out]; split <;> rfl
      dsimp only [Option.isSome, Option.getD]
      have hbk9 := HBK.out
      have c0 := hbk9.get (j := 0) rfl
      have c1 := hbk9.get (j := 1) rfl
      have c2 := hbk9.get (j := 2) rfl
      have z0 := hbk9.fz 0
      have z1 := hbk9.fz 1
      have z2 := hbk9.fz 2
      have hk9 := hbk9.set3 (.string ⟨#[]⟩) (.slice none 0 0) (.slice none 0 0)
      have f0 := hk9.get (j := 0) rfl
      have f1 := hk9.get (j := 1) rfl
      have f2 := hk9.get (j := 2) rfl
      have y0 := hk9.fz 0
      have y1 := hk9.fz 1
      have y2 := hk9.fz 2
      have HB9 := hide (below_set3 (.string ⟨#[]⟩) (.slice none 0 0) (.slice none 0 0) HB.out (Nat.le_refl w.heap.size))
      clear hbk9 hk9
      go_wp2
      exact bodyPost_ret (v := .tuple #[.agg #[.string ⟨#[]⟩, .slice none 0 0, .slice none 0 0], .int .i64 0, .bool false]) (by simp [results, Tryd.results53, go_sem, f0, f1, f2, y0, y1, y2]) rfl (FirstPost.bad HT.out HB9.out)
    rename_i Z
    dsimp only [Option.isSome, Option.getD] at HON HOZ HZQ ⊢
    by_cases hn0 : n = 0
    · have HT : Hid (oneE S = none) := by show _ = _; rw [HE.out, if_neg (by rintro ⟨_, _, h⟩; exact h (hKn.out.2 (.inl hn0)))]
      have e1 : (n == 0) = true := by simpa using hn0
      have e1' : ((n : Int) == 0) = true := by simp [hn0]
      clear hn0
      have hbk9 := HBK.out
      have c0 := hbk9.get (j := 0) rfl
      have c1 := hbk9.get (j := 1) rfl
      have c2 := hbk9.get (j := 2) rfl
      have z0 := hbk9.fz 0
      have z1 := hbk9.fz 1
      have z2 := hbk9.fz 2
      have hk9 := hbk9.set3 (.string ⟨#[]⟩) (.slice none 0 0) (.slice none 0 0)
      have f0 := hk9.get (j := 0) rfl
      have f1 := hk9.get (j := 1) rfl
      have f2 := hk9.get (j := 2) rfl
      have y0 := hk9.fz 0
      have y1 := hk9.fz 1
      have y2 := hk9.fz 2
      have HB9 := hide (below_set3 (.string ⟨#[]⟩) (.slice none 0 0) (.slice none 0 0) HB.out (Nat.le_refl w.heap.size))
      clear hbk9 hk9
      go_wp2
      exact bodyPost_ret (v := .tuple #[.agg #[.string ⟨#[]⟩, .slice none 0 0, .slice none 0 0], .int .i64 0, .bool false]) (by simp [results, Tryd.results53, go_sem, f0, f1, f2, y0, y1, y2]) rfl (FirstPost.bad HT.out HB9.out)
    have e1 : (n == 0) = false := by simpa using hn0
    have e1' : ((n : Int) == 0) = false := by rw [beq_eq_false_iff_ne]; omega
    replace HE : Hid (oneE S = (takeS Z R).bind fun T => (dotS T.2).map fun r => ((tx (Lf.take n), N, T.1), r)) := by
      show _ = _
      rw [HE.out, if_pos ⟨trivial, trivial, fun h => (hKn.out.1 h).elim hn0 fun h2 => by rw [h2] at hn; exact hn0 (Nat.le_zero.1 hn)⟩]
      rfl
    clear hKn HK hn0
    generalize Lf.take n = K at *
    have c1 := HBE.out.get (j := 1) rfl
    have z1 := HBE.out.fz 1
    go_upto_region 14 with (fail)
    have hkq : KeptBut (fun q => q = be) w5 (w5.setCell ⟨be, 1, none⟩ (.slice na N.length nc)) := (KeptBut.refl (fun q => q = be) w5).setCell (p := ⟨be, 1, none⟩) rfl _
    have HNA : Hid (∀ b off, na = some ⟨b, off, none⟩ → be < b ∧ b < w5.heap.size) := fun b off e => by
      have h1 := HON.out.lt b (by subst e; rfl)
      have h2 := HLO4.out
      exact ⟨by omega, h1.2⟩
    have HZA : Hid (∀ b off, za = some ⟨b, off, none⟩ → be < b ∧ b < w5.heap.size) := fun b off e => by
      have h1 := HOZ.out.lt b (by subst e; rfl)
      have h2 := HLO5.out
      exact ⟨by omega, h1.2⟩
    have HSN := hide ((HON.out.sl encInt_len).keptBy hkq (fun b off e h => by have h1 := HNA.out b off e; have e' : b = be := h; omega))
    have HSZ := hide ((HOZ.out.sl encInt_len).keptBy hkq (fun b off e h => by have h1 := HZA.out b off e; have e' : b = be := h; omega))
    have HBE6 : Hid (Bk (w5.setCell ⟨be, 1, none⟩ (.slice na N.length nc)) be [.string (tx K), .slice na N.length nc, .slice none 0 0]) := HBE.out.set (k := 1) (u := .slice none 0 0) _ rfl
    replace HBK := hide (HBK.out.setO (p := ⟨be, 1, none⟩) (by show be ≠ w.heap.size; have := HBG.out; omega) (.slice na N.length nc))
    replace HB := hide (HB.out.setCell (p := ⟨be, 1, none⟩) (by show w.heap.size ≤ be; have := HBG.out; omega) (.slice na N.length nc))
    have HLE6 := hide HBE6.out.lt
    have hs6 : w5.heap.size = (w5.setCell ⟨be, 1, none⟩ (.slice na N.length nc)).heap.size := by simp [World.setCell]
    rw [hs6] at HZA HNA
    clear hs6
    generalize w5.setCell ⟨be, 1, none⟩ (.slice na N.length nc) = w6 at *
    have hZL := HZQ.out
    have hrl := HRL.out
    clear hkq HON HOZ HBE c1 z1 HLE
    go_wp2_with fail
    have hRS : (tx R).size = R.length := tx_size R
    have hHS : (tx H).size = H.length := tx_size H
    have hhl := HHL.out
    go_loopw [17, 18] (fun pv iv wr => ∃ (j p : Nat) (acc : List ByteArray) (va : Value), j ≤ Z.length ∧ iv = .int .i64 j ∧ pv = .int .i64 p ∧ p ≤ R.length ∧ acc.length ≤ j ∧ Hid (takeS Z R = (takeS (Z.drop j) (R.drop p)).map fun x => (acc ++ x.1, x.2)) ∧ Hid (Own 1 encS 9 wr w6.heap.size va acc) ∧ Hid (Bk wr be [.string (tx K), .slice na N.length nc, va]) ∧ Hid (KeptBut (fun q => q = be) w6 wr)) (fun _ iv _ => Z.length - (intOf iv).toNat)
    case atStart => exact ⟨0, 0, [], _, by omega, rfl, rfl, by omega, by simp, (by show _ = _; rw [List.drop_zero, List.drop_zero]; cases takeS Z R <;> simp), Own.nil, HBE6, KeptBut.refl _ _⟩
    case round =>
      obtain ⟨j, p, acc, va, hj, rfl, rfl, hp, hacc, HA, HOW, HBE2, HKP⟩ := hrel
      have HBq := hide (HB.out.trans (HKP.out.below (B := w.heap.size) (fun q e => by have := HBG.out; have e' : q = be := e; omega) HB.out.size))
      have HBKq := hide (HBK.out.kept HKP.out (fun e => by have := HBG.out; have e' : w.heap.size = be := e; omega))
      obtain ⟨oa, oc, hva⟩ := id HOW.out.1
      subst hva
      by_cases hlt : j < Z.length
      · obtain ⟨zb, zoff, z, rfl, hzw, hzk, d0⟩ := (HSZ.out.keptBy HKP.out (fun b off e h => by have := HZA.out b off e; have e' : b = be := h; omega)).int hlt
        have HSTEP := hide (takeS_step HA.out hzk)
        rw [List.length_drop] at HSTEP
        have f1 : (0 : Int) ≤ (j : Int) ∧ (j : Int) < (Z.length : Int) := by omega
        obtain ⟨f1, f2⟩ := f1
        clear hzk HA
        by_cases hz0 : z < 0
        · have g1 : decide (z < 0) = true := by simpa using hz0
          have HT : Hid (oneE S = none) := by show _ = _; rw [HE.out, HSTEP.out.1 (.inl hz0)]; rfl
          clear HSTEP
          clear HB HBK
          have HB := HBq
          have HBK := HBKq
          have hbk9 := HBK.out
          have c0 := hbk9.get (j := 0) rfl
          have c1 := hbk9.get (j := 1) rfl
          have c2 := hbk9.get (j := 2) rfl
          have z0 := hbk9.fz 0
          have z1 := hbk9.fz 1
          have z2 := hbk9.fz 2
          have hk9 := hbk9.set3 (.string ⟨#[]⟩) (.slice none 0 0) (.slice none 0 0)
          have f0 := hk9.get (j := 0) rfl
          have f1 := hk9.get (j := 1) rfl
          have f2 := hk9.get (j := 2) rfl
          have y0 := hk9.fz 0
          have y1 := hk9.fz 1
          have y2 := hk9.fz 2
          have HB9 := hide (below_set3 (.string ⟨#[]⟩) (.slice none 0 0) (.slice none 0 0) HB.out (Nat.le_refl w.heap.size))
          clear hbk9 hk9
          go_wp2
          exact bodyPost_ret (v := .tuple #[.agg #[.string ⟨#[]⟩, .slice none 0 0, .slice none 0 0], .int .i64 0, .bool false]) (by simp [results, Tryd.results53, go_sem, f0, f1, f2, y0, y1, y2]) rfl (FirstPost.bad HT.out HB9.out)
        have g1 : decide (z < 0) = false := by simpa using hz0
        obtain ⟨n, rfl⟩ : ∃ n : Nat, z = (n : Int) := ⟨z.toNat, by omega⟩
        by_cases hz1 : R.length - p < n
        · have g3 : decide ((R.length : Int) - (p : Int) < (n : Int)) = true := by simp; omega
          have HT : Hid (oneE S = none) := by show _ = _; rw [HE.out, HSTEP.out.1 (.inr (by omega))]; rfl
          clear HSTEP
          clear HB HBK
          have HB := HBq
          have HBK := HBKq
          have hbk9 := HBK.out
          have c0 := hbk9.get (j := 0) rfl
          have c1 := hbk9.get (j := 1) rfl
          have c2 := hbk9.get (j := 2) rfl
          have z0 := hbk9.fz 0
          have z1 := hbk9.fz 1
          have z2 := hbk9.fz 2
          have hk9 := hbk9.set3 (.string ⟨#[]⟩) (.slice none 0 0) (.slice none 0 0)
          have f0 := hk9.get (j := 0) rfl
          have f1 := hk9.get (j := 1) rfl
          have f2 := hk9.get (j := 2) rfl
          have y0 := hk9.fz 0
          have y1 := hk9.fz 1
          have y2 := hk9.fz 2
          have HB9 := hide (below_set3 (.string ⟨#[]⟩) (.slice none 0 0) (.slice none 0 0) HB.out (Nat.le_refl w.heap.size))
          clear hbk9 hk9
          go_wp2
          exact bodyPost_ret (v := .tuple #[.agg #[.string ⟨#[]⟩, .slice none 0 0, .slice none 0 0], .int .i64 0, .bool false]) (by simp [results, Tryd.results53, go_sem, f0, f1, f2, y0, y1, y2]) rfl (FirstPost.bad HT.out HB9.out)
        have g3 : decide ((R.length : Int) - (p : Int) < (n : Int)) = false := by simp; omega
        have HT := hide (HSTEP.out.2 (by omega))
        rw [Int.toNat_natCast, List.drop_drop] at HT
        clear HSTEP HBKq HBq
        have hpn : p + n ≤ R.length := by omega
        have hx1 : (tx R).extract p (p + n) = tx ((R.drop p).take n) := tx_part hpn
        have hx3 : (0 : Int) ≤ (p : Int) ∧ (p : Int) ≤ (p : Int) + (n : Int) ∧ (p : Int) + (n : Int) ≤ (R.length : Int) := by omega
        obtain ⟨hx3, hx4, hx5⟩ := hx3
        have hx6 : ((p : Int) + (n : Int)).toNat = p + n := by omega
        have hx7 : (0 : Int) ≤ (p : Int) + (n : Int) := by omega
        have c2 := HBE2.out.get (j := 2) rfl
        go_upto_region 20 with (fail)
        generalize hpc : tx ((R.drop p).take n) = pc at *
        clear hpc
        have hbd2 : Below wr.heap.size wr (wr.alloc (Obj.cells #[.string pc] 9)).drew := ((Below.refl _ _).alloc (Nat.le_refl _) _).drew
        have HNW : Hid (∀ (j : Nat) (u : Value), (encS pc)[j]? = some u → (wr.alloc (Obj.cells #[.string pc] 9)).drew.cell? ((⟨wr.heap.size, 0, none⟩ : Addr).add j) = some u) := by
          intro j u hj
          have hWn : Bk (wr.alloc (Obj.cells #[.string pc] 9)).drew wr.heap.size [.string pc] := (Bk.new rfl).later (Below.refl _ _).drew
          have h2 := hWn.get (j := j) hj
          have h3 : (⟨wr.heap.size, 0, none⟩ : Addr).add j = ⟨wr.heap.size, j, none⟩ := by
            rcases j with _ | j <;> simp [Addr.add]
          rw [h3]; exact h2
        have HFIN := hide fun v' w1 ho hg => one_grown (enc := encS) (ty := 9) (v' := v') (w1 := w1) (acc := acc ++ [pc]) HLE6.out (HBE2.out.later hbd2) (fun q e => (HOW.out.lt q e).1) (HKP.out.trans (KeptBut.of_below hbd2 (Nat.le_refl _))) ho hg
        have HD9 : Hid (∀ v' w1, (wr.alloc (Obj.cells #[.string pc] 9)).drew.grownBy w1 (Value.slice oa acc.length oc).ownBlock → w1.cell? ⟨zb, zoff + j, none⟩ = some (.int .i64 (n : Int)) ∧ (w1.setCell ⟨be, 2, none⟩ v').cell? ⟨zb, zoff + j, none⟩ = some (.int .i64 (n : Int))) := fun v' w1 hg => by
          have hd1 := cell_later hbd2 d0
          have hzb := HZA.out zb zoff rfl
          have hk1 : KeptBut (fun q => (Value.slice oa acc.length oc).ownBlock = some q) _ w1 := KeptBut.of_grown hg fun k e => e
          have hd2 := hk1.cell hd1 (fun e => by have := (HOW.out.lt zb e).1; show False; omega)
          exact ⟨hd2, cellSetO hd2 (fun e => by have h5 : be = zb := congrArg Addr.block e; omega)⟩
        have HOW9 := hide (HOW.out.later hbd2)
        have HONE := hide (show ∀ u ∈ encS pc, u.oneCell' = true from one_str _)
        have HLEN := hide (show acc.length + 1 ≤ 1000000000 by omega)
        have a2 := cell_later (((Below.refl wr.heap.size wr).alloc (Nat.le_refl _) (Obj.cells #[.string pc] 9))) c2
        have a3 := cell_later (((Below.refl wr.heap.size wr).alloc (Nat.le_refl _) (Obj.cells #[.string pc] 9))) d0
        have HB9 : Hid (w6.heap.size ≤ (wr.alloc (Obj.cells #[.string pc] 9)).drew.heap.size) := by
          have h1 := HKP.out.size
          have h2 := hbd2.size
          show _ ≤ _
          omega
        clear hbd2 HBE2 HOW HKP
        have hxw : IntKind.i64.wrap ((p : Int) + (n : Int)) = (p : Int) + (n : Int) := IntWalk.i64_in _ (by omega)
        go_region_law (refine step_append_one (enc := encS) encS_len _ _ 33 i0 _ rfl rfl Tryd.underlying33 hi hz0' hz1' hz2' rfl (by decide) (by decide) HOW9.out (Below.refl _ _) HB9.out HLEN.out rfl pc ⟨wr.heap.size, 0, none⟩ 1 rfl HNW.out HONE.out ?_; intro v' w1 hown1 hb1 hgr hat; obtain ⟨hq1, hq2, hq3, z2, c2⟩ := HFIN.out v' w1 hown1 hgr; have d9 := (HD9.out v' w1 hgr).2; obtain ⟨ao', cap', rfl⟩ := id hown1.1; rw [show (acc ++ [pc]).length = acc.length + 1 by simp] at hq1 hq2 hq3 d9; have HQ1 := hide hq1; have HQ2 := hide hq2; have HQ3 := hide hq3; clear hown1 hb1 hgr hat hq1 hq2 hq3)
        all_goals
          go_wp2
          clear hxw hx6
          go_roundw
          case rel => exact ⟨j + 1, p + n, acc ++ [pc], .slice ao' (acc.length + 1) cap', by omega, by go_num, by go_num, hpn, by simp; omega, HT, HQ2, HQ1, HQ3⟩
          case measure => (simp [intOf]; try omega)
      · obtain rfl : j = Z.length := by omega
        have f3 : decide (Z.length < Z.length) = false := by simp
        have HT : Hid (oneE S = (dotS (R.drop p)).map fun t => ((tx K, N, acc), t)) := by
          show _ = _
          rw [HE.out, HA.out, List.drop_length, takeS_nil]
          simp
        have c0' := HBE2.out.get (j := 0) rfl
        have c1' := HBE2.out.get (j := 1) rfl
        have c2' := HBE2.out.get (j := 2) rfl
        have HSNq := hide (HSN.out.keptBy HKP.out (fun b off e h => by have := HNA.out b off e; have e' : b = be := h; omega))
        clear HA HB HBK
        have HB := HBq
        have HBK := HBKq
        by_cases hpR : p < R.length
        · obtain ⟨c, hc⟩ : ∃ c, R[p]? = some c := ⟨_, List.getElem?_eq_getElem hpR⟩
          obtain ⟨h3, h4⟩ := List.getElem?_eq_some_iff.1 hc
          have hdr : R.drop p = c :: R.drop (p + 1) := by rw [List.drop_eq_getElem_cons h3, h4]
          rw [hdr] at HT
          have hpp : p < (tx R).size := by rw [tx_size]; exact hpR
          have hat : (tx R)[p] = c := tx_at hc hpp
          have e3 : decide (R.length ≤ p) = false := by simp; omega
          have e3' : decide ((R.length : Int) ≤ (p : Int)) = false := by simp; omega
          have g4 : (0 : Int) ≤ (p : Int) ∧ (p : Int) < (R.length : Int) := by omega
          obtain ⟨g4, g5⟩ := g4
          by_cases hc46 : c = 46
          · subst hc46
            replace HT : Hid (oneE S = some ((tx K, N, acc), R.drop (p + 1))) := by show _ = _; rw [HT.out]; rfl
            have g2 : (((46 : UInt8).toNat : Int) == 46) = true := rfl
            have HNE : Hid ((H.length : Int) + 1 + (p : Int) + 1 = (S.length : Int) - (R.drop (p + 1)).length) := by
              have h5 := HLN.out trivial
              show _ = _
              rw [List.length_drop]; omega
            clear hc hdr h3 h4
            have hbk9 := HBK.out
            have c0 := hbk9.get (j := 0) rfl
            have c1 := hbk9.get (j := 1) rfl
            have c2 := hbk9.get (j := 2) rfl
            have z0 := hbk9.fz 0
            have z1 := hbk9.fz 1
            have z2 := hbk9.fz 2
            have hk9 := hbk9.set3 (.string (tx K)) (.slice na N.length nc) (.slice oa acc.length oc)
            have f0 := hk9.get (j := 0) rfl
            have f1 := hk9.get (j := 1) rfl
            have f2 := hk9.get (j := 2) rfl
            have y0 := hk9.fz 0
            have y1 := hk9.fz 1
            have y2 := hk9.fz 2
            have HB9 := hide (below_set3 (.string (tx K)) (.slice na N.length nc) (.slice oa acc.length oc) HB.out (Nat.le_refl w.heap.size))
            have hkq : KeptBut (fun q => q = w.heap.size) wr (((wr.setCell ⟨w.heap.size, 0, none⟩ (.string (tx K))).setCell ⟨w.heap.size, 1, none⟩ (.slice na N.length nc)).setCell ⟨w.heap.size, 2, none⟩ (.slice oa acc.length oc)) :=
              (((KeptBut.refl (fun q => q = w.heap.size) wr).setCell (p := ⟨w.heap.size, 0, none⟩) rfl _).setCell (p := ⟨w.heap.size, 1, none⟩) rfl _).setCell (p := ⟨w.heap.size, 2, none⟩) rfl _
            have HS1 := hide (HSNq.out.keptBy hkq (fun b off e h => by have h1 := HNA.out b off e; have h2 := HBG.out; have e' : b = w.heap.size := h; omega))
            have HS2 := hide ((HOW.out.sl encS_len).keptBy hkq (fun b off e h => by have h1 := (HOW.out.lt b (by subst e; rfl)).1; have h2 := HLE6.out; have h3 := HBG.out; have e' : b = w.heap.size := h; omega))
            have HF1 : Hid (Fresh w (((wr.setCell ⟨w.heap.size, 0, none⟩ (.string (tx K))).setCell ⟨w.heap.size, 1, none⟩ (.slice na N.length nc)).setCell ⟨w.heap.size, 2, none⟩ (.slice oa acc.length oc)) na) := fun b off e => by
              have h1 := HNA.out b off e
              have h3 := HBG.out
              have h4 := HKP.out.size
              rw [size_set3]
              exact ⟨by omega, by omega⟩
            have HF2 : Hid (Fresh w (((wr.setCell ⟨w.heap.size, 0, none⟩ (.string (tx K))).setCell ⟨w.heap.size, 1, none⟩ (.slice na N.length nc)).setCell ⟨w.heap.size, 2, none⟩ (.slice oa acc.length oc)) oa) := fun b off e => by
              have h1 := HOW.out.lt b (by subst e; rfl)
              have h2 := HLE6.out
              have h3 := HBG.out
              rw [size_set3]
              exact ⟨by omega, by omega⟩
            clear hbk9 hk9 hkq
            go_wp2
            exact bodyPost_ret (v := .tuple #[.agg #[.string (tx K), .slice na N.length nc, .slice oa acc.length oc], .int .i64 ((H.length : Int) + 1 + (p : Int) + 1), .bool true]) (by simp [results, Tryd.results53, go_sem, f0, f1, f2, y0, y1, y2]) rfl (FirstPost.good HT.out HNE.out HS1.out HS2.out HF1.out HF2.out HB9.out)
          · replace HT : Hid (oneE S = none) := by
              show _ = _
              rw [HT.out]
              rcases dot_cases (c :: R.drop (p + 1)) with ⟨t, e⟩ | ⟨e, _⟩
              · cases e; exact absurd rfl hc46
              · rw [e]; rfl
            have g2 : ((c.toNat : Int) == 46) = false := by
              rw [beq_eq_false_iff_ne]; intro e; exact hc46 (UInt8.toNat_inj.1 (by show c.toNat = 46; omega))
            clear hc hdr h3 h4 hc46
            have hbk9 := HBK.out
            have c0 := hbk9.get (j := 0) rfl
            have c1 := hbk9.get (j := 1) rfl
            have c2 := hbk9.get (j := 2) rfl
            have z0 := hbk9.fz 0
            have z1 := hbk9.fz 1
            have z2 := hbk9.fz 2
            have hk9 := hbk9.set3 (.string ⟨#[]⟩) (.slice none 0 0) (.slice none 0 0)
            have f0 := hk9.get (j := 0) rfl
            have f1 := hk9.get (j := 1) rfl
            have f2 := hk9.get (j := 2) rfl
            have y0 := hk9.fz 0
            have y1 := hk9.fz 1
            have y2 := hk9.fz 2
            have HB9 := hide (below_set3 (.string ⟨#[]⟩) (.slice none 0 0) (.slice none 0 0) HB.out (Nat.le_refl w.heap.size))
            clear hbk9 hk9
            go_wp2
            exact bodyPost_ret (v := .tuple #[.agg #[.string ⟨#[]⟩, .slice none 0 0, .slice none 0 0], .int .i64 0, .bool false]) (by simp [results, Tryd.results53, go_sem, f0, f1, f2, y0, y1, y2]) rfl (FirstPost.bad HT.out HB9.out)
        · replace HT : Hid (oneE S = none) := by
            show _ = _
            rw [HT.out, List.drop_of_length_le (by omega)]
            rfl
          have e3 : decide (R.length ≤ p) = true := by simp; omega
          have e3' : decide ((R.length : Int) ≤ (p : Int)) = true := by simp; omega
          have hbk9 := HBK.out
          have c0 := hbk9.get (j := 0) rfl
          have c1 := hbk9.get (j := 1) rfl
          have c2 := hbk9.get (j := 2) rfl
          have z0 := hbk9.fz 0
          have z1 := hbk9.fz 1
          have z2 := hbk9.fz 2
          have hk9 := hbk9.set3 (.string ⟨#[]⟩) (.slice none 0 0) (.slice none 0 0)
          have f0 := hk9.get (j := 0) rfl
          have f1 := hk9.get (j := 1) rfl
          have f2 := hk9.get (j := 2) rfl
          have y0 := hk9.fz 0
          have y1 := hk9.fz 1
          have y2 := hk9.fz 2
          have HB9 := hide (below_set3 (.string ⟨#[]⟩) (.slice none 0 0) (.slice none 0 0) HB.out (Nat.le_refl w.heap.size))
          clear hbk9 hk9
          go_wp2
          exact bodyPost_ret (v := .tuple #[.agg #[.string ⟨#[]⟩, .slice none 0 0, .slice none 0 0], .int .i64 0, .bool false]) (by simp [results, Tryd.results53, go_sem, f0, f1, f2, y0, y1, y2]) rfl (FirstPost.bad HT.out HB9.out)
end Go.Proofs.YtkodbldfoldbjaaDoor
