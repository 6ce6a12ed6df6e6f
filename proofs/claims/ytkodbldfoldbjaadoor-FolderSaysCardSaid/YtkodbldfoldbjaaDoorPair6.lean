/- Pairs: the document's reading of a text. -/
import Derived.Test.YtkodbldfoldbjaaDoorPair5
set_option linter.unusedSimpArgs false
set_option linter.unusedVariables false
namespace Go.Proofs.YtkodbldfoldbjaaDoor
open Go.RowKit

set_option maxRecDepth 100000 in
set_option maxHeartbeats 2000000 in
theorem PairsOf_any (s : ByteArray) (w : World) (hs : s.size ≤ 1000000) :
    Calls Tryd.prog 35 #[.string s] w (ParsePost s.data.toList (.int .i64 4) (.int .i64 0) w) := by
  obtain ⟨i0, hi, hz0, hz1, hz2⟩ := info_parts infoPair
  have hsl := tl_len s
  obtain ⟨S, hS⟩ : ∃ S, s.data.toList = S := ⟨_, rfl⟩
  obtain rfl : s = tx S := by rw [← hS, tx_of]
  rw [tx_list]
  rw [tx_list] at hsl
  clear hS
  go_enter Tryd.func35, Tryd.ntmps35
  go_wp2
  go_loopw [0, 4] (fun sv v wr => ∃ (r : List UInt8) (acc : List Pr), sv = .string (tx r) ∧ r.length + acc.length ≤ S.length ∧ Hid (parseP S = (parseP r).map (acc ++ ·)) ∧ Own 2 encP 47 wr w.heap.size v acc ∧ Below w.heap.size w wr) (fun sv _ _ => strLen sv)
  case atStart => exact ⟨S, [], rfl, by simp, by show _ = _; cases parseP S <;> simp, Own.nil, Below.refl _ _⟩
  case round =>
    obtain ⟨r, acc, rfl, hlen, HP, hown, hnx⟩ := hrel
    have htr := tx_size r
    by_cases hr : r = []
    · subst hr
      have HE := hide (parse_end HP.out)
      have e1 : (tx ([] : List UInt8)).size = 0 := by rw [tx_size]; rfl
      obtain ⟨⟨ao, cap, rfl⟩, _⟩ := id hown
      have HO := hide hown
      clear HP hown htr
      go_wp2
      go_ret2
      exact ParsePost.good HE.out HO.out hnx
    · have hrl : 1 ≤ r.length := List.length_pos_iff.2 hr
      have e1 : 0 < (tx r).size := by omega
      have HN := hide (UpTo_any (tx r) 58 wr (by omega))
      rw [tx_list] at HN
      have hcl := (cutAt_len 58 r).1
      have hst := stepP r
      generalize hq : cutAt 58 r = q at *
      obtain ⟨A, R, o⟩ := q
      have HQ := hide hq
      clear hq htr
      have HNX := hide hnx
      have hws := hnx.size
      have HO := hide hown
      obtain ⟨⟨ao, cap, rfl⟩, _⟩ := id hown
      clear hnx hown
      have hRl : R.length ≤ 1000000 := by simp only at hcl; omega
      have hTR : (tx R).size = R.length := tx_size R
      have HM : Hid (∀ w' : World, Calls Tryd.prog 69 #[.string (tx A)] w' fun e w'' => e = .returned (.tuple #[.int .i64 (refNum A).1, .bool (refNum A).2]) ∧ w' = w'') := fun w' => by
        have := Number_any (tx A) w' (by rw [tx_size]; simp only at hcl; omega)
        rwa [tx_list] at this
      dsimp only at HN
      rcases hst with ⟨h, e⟩ | ⟨h, hn, e⟩ | ⟨h, n, hn, hl, e⟩ | ⟨h, n, hn, hl, c, hc, h32, e⟩ | ⟨h, n, hn, hl, hc, h2, e⟩ | ⟨h, n, hn, hl, hc, h2, e⟩
      · rw [HQ.out] at h
        dsimp only at h
        have HE := hide (parse_acc HP.out e hr)
        rw [← numOk_ref] at h
        generalize refNum A = m at *
        obtain ⟨m1, m2⟩ := m
        dsimp only at HM h
        clear HP e hcl hTR
        cases o
        · clear h
          go_wp2_with fail
          refine HN.out.mono ?_
          rintro e w1 ⟨rfl, b1⟩
          have HB := hide (HNX.out.trans (b1.mono hws))
          clear b1 HN
          go_wp2_with fail
          refine (HM.out _).mono ?_
          rintro e w1' ⟨rfl, rfl⟩
          clear HM
          go_wp2
          go_ret2
          exact ParsePost.bad HE.out HB.out
        · obtain rfl : m2 = false := by simpa using h
          clear h
          go_wp2_with fail
          refine HN.out.mono ?_
          rintro e w1 ⟨rfl, b1⟩
          have HB := hide (HNX.out.trans (b1.mono hws))
          clear b1 HN
          go_wp2_with fail
          refine (HM.out _).mono ?_
          rintro e w1' ⟨rfl, rfl⟩
          clear HM
          go_wp2
          go_ret2
          exact ParsePost.bad HE.out HB.out
      · rw [HQ.out] at h hn
        dsimp only at h hn
        obtain ⟨ho, hk⟩ := Bool.and_eq_true_iff.1 h
        subst ho
        rw [numOk_ref, numOk_refv hk, hk] at HM
        have HE := hide (parse_acc HP.out e hr)
        generalize atoiV A = nv at *
        have g1 : decide (nv < 0) = true := by simpa using hn
        clear HP e h hk hcl hn hTR
        go_wp2_with fail
        refine HN.out.mono ?_
        rintro e w1 ⟨rfl, b1⟩
        have HB := hide (HNX.out.trans (b1.mono hws))
        clear b1 HN
        go_wp2_with fail
        refine (HM.out _).mono ?_
        rintro e w1' ⟨rfl, rfl⟩
        clear HM
        go_wp2
        go_ret2
        exact ParsePost.bad HE.out HB.out
      · rw [HQ.out] at h hn hl
        dsimp only at h hn hl
        obtain ⟨ho, hk⟩ := Bool.and_eq_true_iff.1 h
        subst ho
        rw [numOk_ref, numOk_refv hk, hk] at HM
        rw [hn] at HM
        have HE := hide (parse_acc HP.out e hr)
        generalize tx R = T at *
        have g2 : T.size ≤ n := by omega
        clear HP e h hk hcl hn hl hTR
        go_wp2_with fail
        refine HN.out.mono ?_
        rintro e w1 ⟨rfl, b1⟩
        have HB := hide (HNX.out.trans (b1.mono hws))
        clear b1 HN
        go_wp2_with fail
        refine (HM.out _).mono ?_
        rintro e w1' ⟨rfl, rfl⟩
        clear HM
        go_wp2
        go_ret2
        exact ParsePost.bad HE.out HB.out
      · rw [HQ.out] at h hn hl hc
        dsimp only at h hn hl hc
        obtain ⟨ho, hk⟩ := Bool.and_eq_true_iff.1 h
        subst ho
        rw [numOk_ref, numOk_refv hk, hk] at HM
        rw [hn] at HM
        have HE := hide (parse_acc HP.out e hr)
        have hx := fun hn => tx_at hc hn
        generalize tx R = T at *
        have g2 : n < T.size := by omega
        have g3 : (0 : Int) ≤ (n : Int) ∧ (n : Int) < (T.size : Int) := by omega
        obtain ⟨g3, g4⟩ := g3
        have g5 : ((T[n].toNat : Int) != 32) = true := by
          rw [bne_iff_ne]; intro e; exact h32 (by rw [← hx g2]; exact UInt8.toNat_inj.1 (by show T[n].toNat = 32; omega))
        clear HP e h hk hcl hn hl hx hc h32 hTR
        go_wp2_with fail
        refine HN.out.mono ?_
        rintro e w1 ⟨rfl, b1⟩
        have HB := hide (HNX.out.trans (b1.mono hws))
        clear b1 HN
        go_wp2_with fail
        refine (HM.out _).mono ?_
        rintro e w1' ⟨rfl, rfl⟩
        clear HM
        go_wp2
        go_ret2
        exact ParsePost.bad HE.out HB.out
      · rw [HQ.out] at h hn hl hc h2
        dsimp only at h hn hl hc h2
        obtain ⟨ho, hk⟩ := Bool.and_eq_true_iff.1 h
        subst ho
        rw [numOk_ref, numOk_refv hk, hk] at HM
        rw [hn] at HM
        have HE := hide (parse_acc HP.out e hr)
        have hx := fun hn => tx_at hc hn
        have hD := tx_extD R (n + 1)
        skip
        have hcl2 := (cutAt_len 10 (R.drop (n + 1))).1
        rw [List.length_drop] at hcl2
        generalize tx R = T at *
        have g2 : n < T.size := by omega
        have g3 : (0 : Int) ≤ (n : Int) ∧ (n : Int) < (T.size : Int) ∧ (n : Int) + 1 ≤ (T.size : Int) ∧ (n : Int) ≤ 1000000 ∧ T.size ≤ 1000000 := by omega
        obtain ⟨g3, g4, g6, g7, g8⟩ := g3
        have g9 : decide (T.size ≤ n) = false := by simp; omega
        have g5 : ((T[n].toNat : Int) != 32) = false := by rw [hx g2]; rfl
        have HN2 : Hid (∀ w', Calls Tryd.prog 68 #[.string (T.extract (n + 1) T.size), .int .u8 10] w' fun e w'' => e = .returned (.tuple #[.string (tx (cutAt 10 (R.drop (n + 1))).1), .string (tx (cutAt 10 (R.drop (n + 1))).2.1), .bool (cutAt 10 (R.drop (n + 1))).2.2]) ∧ Below w'.heap.size w' w'') := fun w' => by
          have := UpTo_any (tx (R.drop (n + 1))) 10 w' (by rw [tx_size, List.length_drop]; omega)
          rwa [tx_list, ← hD] at this
        have HM2 : Hid (∀ w' : World, Calls Tryd.prog 69 #[.string (tx (cutAt 10 (R.drop (n + 1))).1)] w' fun e w'' => e = .returned (.tuple #[.int .i64 (refNum (cutAt 10 (R.drop (n + 1))).1).1, .bool (refNum (cutAt 10 (R.drop (n + 1))).1).2]) ∧ w' = w'') := fun w' => by
          have := Number_any (tx (cutAt 10 (R.drop (n + 1))).1) w' (by rw [tx_size]; omega)
          rwa [tx_list] at this
        rw [← numOk_ref] at h2
        generalize refNum (cutAt 10 (R.drop (n + 1))).1 = m at *
        obtain ⟨m1, m2⟩ := m
        dsimp only at HM2 h2
        generalize cutAt 10 (R.drop (n + 1)) = q2 at *
        obtain ⟨A2, M, o2⟩ := q2
        dsimp only at HN2 HM2 h2
        clear HP e h hk hcl hcl2 hn hl hx hc hD hTR
        cases o2
        · clear h2
          go_wp2_with fail
          refine HN.out.mono ?_
          rintro e w1 ⟨rfl, b1⟩
          have HB := hide (HNX.out.trans (b1.mono hws))
          clear b1 HN
          go_wp2_with fail
          refine (HM.out _).mono ?_
          rintro e w1' ⟨rfl, rfl⟩
          clear HM
          go_wp2_with fail
          refine (HN2.out _).mono ?_
          rintro e w2 ⟨rfl, b2⟩
          have HB2 := hide (HB.out.trans (b2.mono HB.out.size))
          clear b2 HN2
          go_wp2_with fail
          refine (HM2.out _).mono ?_
          rintro e w2' ⟨rfl, rfl⟩
          clear HM2
          go_wp2
          go_ret2
          exact ParsePost.bad HE.out HB2.out
        · obtain rfl : m2 = false := by simpa using h2
          clear h2
          go_wp2_with fail
          refine HN.out.mono ?_
          rintro e w1 ⟨rfl, b1⟩
          have HB := hide (HNX.out.trans (b1.mono hws))
          clear b1 HN
          go_wp2_with fail
          refine (HM.out _).mono ?_
          rintro e w1' ⟨rfl, rfl⟩
          clear HM
          go_wp2_with fail
          refine (HN2.out _).mono ?_
          rintro e w2 ⟨rfl, b2⟩
          have HB2 := hide (HB.out.trans (b2.mono HB.out.size))
          clear b2 HN2
          go_wp2_with fail
          refine (HM2.out _).mono ?_
          rintro e w2' ⟨rfl, rfl⟩
          clear HM2
          go_wp2
          go_ret2
          exact ParsePost.bad HE.out HB2.out
      · rw [HQ.out] at h hn hl hc h2 e
        dsimp only at h hn hl hc h2 e
        obtain ⟨ho, hk⟩ := Bool.and_eq_true_iff.1 h
        subst ho
        rw [numOk_ref, numOk_refv hk, hk] at HM
        rw [hn] at HM
        have HE := hide (parse_more HP.out e)
        have hx := fun hn => tx_at hc hn
        have hD := tx_extD R (n + 1)
        have hT := tx_extT R n
        have hcl2 := (cutAt_len 10 (R.drop (n + 1))).1
        rw [List.length_drop] at hcl2
        generalize tx R = T at *
        have g2 : n < T.size := by omega
        have g3 : (0 : Int) ≤ (n : Int) ∧ (n : Int) < (T.size : Int) ∧ (n : Int) + 1 ≤ (T.size : Int) ∧ (n : Int) ≤ 1000000 ∧ T.size ≤ 1000000 := by omega
        obtain ⟨g3, g4, g6, g7, g8⟩ := g3
        have g9 : decide (T.size ≤ n) = false := by simp; omega
        have g5 : ((T[n].toNat : Int) != 32) = false := by rw [hx g2]; rfl
        have HN2 : Hid (∀ w', Calls Tryd.prog 68 #[.string (T.extract (n + 1) T.size), .int .u8 10] w' fun e w'' => e = .returned (.tuple #[.string (tx (cutAt 10 (R.drop (n + 1))).1), .string (tx (cutAt 10 (R.drop (n + 1))).2.1), .bool (cutAt 10 (R.drop (n + 1))).2.2]) ∧ Below w'.heap.size w' w'') := fun w' => by
          have := UpTo_any (tx (R.drop (n + 1))) 10 w' (by rw [tx_size, List.length_drop]; omega)
          rwa [tx_list, ← hD] at this
        have HM2 : Hid (∀ w' : World, Calls Tryd.prog 69 #[.string (tx (cutAt 10 (R.drop (n + 1))).1)] w' fun e w'' => e = .returned (.tuple #[.int .i64 (refNum (cutAt 10 (R.drop (n + 1))).1).1, .bool (refNum (cutAt 10 (R.drop (n + 1))).1).2]) ∧ w' = w'') := fun w' => by
          have := Number_any (tx (cutAt 10 (R.drop (n + 1))).1) w' (by rw [tx_size]; omega)
          rwa [tx_list] at this
        obtain ⟨ho2, hk2⟩ := Bool.and_eq_true_iff.1 h2
        rw [ho2] at HN2
        rw [numOk_ref, numOk_refv hk2, hk2] at HM2
        have HT := hide hT
        have hml : (cutAt 10 (R.drop (n + 1))).2.1.length + (acc.length + 1) ≤ S.length ∧ (cutAt 10 (R.drop (n + 1))).2.1.length < r.length := by
          simp only at hcl; omega
        obtain ⟨hm1, hm2⟩ := hml
        generalize atoiV (cutAt 10 (R.drop (n + 1))).1 = v at *
        generalize (cutAt 10 (R.drop (n + 1))).2.1 = M at *
        generalize (cutAt 10 (R.drop (n + 1))).1 = A2 at *
        clear HP e h hk hk2 ho2 hcl hcl2 hn hl hx hc h2 hD hT hTR
        go_wp2_with fail
        refine HN.out.mono ?_
        rintro e w1 ⟨rfl, b1⟩
        have HB := hide (HNX.out.trans (b1.mono hws))
        have HO1 := hide (HO.out.later b1)
        clear b1 HN
        go_wp2_with fail
        refine (HM.out _).mono ?_
        rintro e w1' ⟨rfl, rfl⟩
        clear HM
        go_wp2_with fail
        refine (HN2.out _).mono ?_
        rintro e w2 ⟨rfl, b2⟩
        have HB2 := hide (HB.out.trans (b2.mono HB.out.size))
        have hown2 := HO1.out.later b2
        clear b2 HN2
        go_wp2_with fail
        refine (HM2.out _).mono ?_
        rintro e w2' ⟨rfl, rfl⟩
        clear HM2
        have hb2 := HB2.out
        have hw2 := HB2.out.size
        clear HB HO1
        go_wp2_with (at_builtin; refine wpList_append_one encP_len _ _ 43 i0 _ rfl rfl Tryd.underlying43 hi hz0 hz1 hz2 rfl (by decide) (by decide) (hown2.alloc _) (hb2.alloc hw2 _) ?c1 ?c2 rfl (T.extract 0 n, v) ⟨w2.heap.size, 0, none⟩ 1 rfl (news_at rfl rfl) (one_pair _) ?_)
        case c1 => simp; omega
        case c2 => omega
        intro v' w3 hown3 hb3 _ _
        have HO3 := hide hown3
        have HB3 := hide hb3
        clear hown3 hb3 hown2 hb2
        go_wp2
        go_roundw
        case rel => exact ⟨M, acc ++ [(tx (R.take n), v)], rfl, by simp; omega, HE.out, by rw [← HT.out]; exact HO3.out, HB3.out⟩
        case measure => (simp only [strLen, tx_size]; omega)
end Go.Proofs.YtkodbldfoldbjaaDoor
