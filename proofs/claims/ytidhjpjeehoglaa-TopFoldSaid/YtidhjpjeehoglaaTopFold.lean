/- 'TopFold' returns true for every input and leaves its arguments as they were; no condition. -/
import Derived.Test.YtidhjpjeehoglaaFoldLaw
import Derived.Test.YtidhjpjeehoglaaSort7
namespace Go.Proofs.Ytidhjpjeehoglaa
open Go.RowKit Go.ChangeShapes Go.WideShapes Go.ChangeAt

def pairFault (p : Pr) : Int := if 20 < p.1.size ∨ p.2 < -1000000000 ∨ 1000000000 < p.2 then 1 else 0
theorem PairCheck_any (p : Pr) (w : World) :
    Calls Try.prog 30 #[.agg #[.string p.1, .int .i64 p.2]] w fun e w' => e = .returned (errV (pairFault p)) ∧ Below w.heap.size w w' := by
  have hb : Below w.heap.size w (w.alloc (.cells #[.string p.1, .int .i64 p.2] 65)) := (Below.refl _ _).alloc (Nat.le_refl _) _
  by_cases h1 : 20 < p.1.size
  · have hr : pairFault p = 1 := if_pos (.inl h1)
    rw [hr]
    have e1 : decide ((20 : Int) < (p.1.size : Int)) = true := by simp; omega
    go_enter Try.func30, Try.ntmps30
    go_wp2
    go_ret
    exact ⟨rfl, hb⟩
  · have e1 : decide ((20 : Int) < (p.1.size : Int)) = false := by simp; omega
    by_cases h2 : p.2 < -1000000000
    · have hr : pairFault p = 1 := if_pos (.inr (.inl h2))
      rw [hr]
      have e2 : decide (p.2 < -1000000000) = true := by simpa using h2
      go_enter Try.func30, Try.ntmps30
      go_wp2
      go_ret
      exact ⟨rfl, hb⟩
    · have e2 : decide (p.2 < -1000000000) = false := by simpa using h2
      by_cases h3 : 1000000000 < p.2
      · have hr : pairFault p = 1 := if_pos (.inr (.inr h3))
        rw [hr]
        have e3 : decide (1000000000 < p.2) = true := by simpa using h3
        go_enter Try.func30, Try.ntmps30
        go_wp2
        go_ret
        exact ⟨rfl, hb⟩
      · have hr : pairFault p = 0 := if_neg (by omega)
        rw [hr]
        have e3 : decide (1000000000 < p.2) = false := by simpa using h3
        go_enter Try.func30, Try.ntmps30
        go_wp2
        go_ret
        exact ⟨rfl, hb⟩
theorem lightPairs_len {l : List Pr} {m : Int} (h : lightPairs l m = true) : (l.length : Int) ≤ m := by
  simp only [lightPairs, Bool.and_eq_true, decide_eq_true_eq] at h; exact h.1

def GPost (k : Int) (l : List Pr) (w : World) (e : Ending) (w' : World) : Prop := ∃ v, e = .returned v ∧ Own 2 encP 65 w' w.heap.size v (groups k l) ∧ Below w.heap.size w w'
set_option maxRecDepth 100000 in
set_option maxHeartbeats 4000000 in
theorem TopFold_walk (k a b c : Int) (ao : Option Addr) (cap : Nat) (l : List Pr) (w : World) (hl : l.length ≤ maxLen) (hs : Sl 2 encP w ao l) :
    Calls Try.prog 5 #[.int .i64 k, .int .i64 a, .int .i64 b, .int .i64 c, .slice ao l.length cap] w fun e w' => e = .returned (.bool true) ∧ Below w.heap.size w w' := by
  obtain ⟨ip, hpi, hpz0, hpz1, hpz2⟩ := info_parts infoPr
  have h22 : Hid (two 2 3 2 = 2) := by show _ = _; decide
  by_cases hk : 1 ≤ k ∧ k ≤ 4
  · have hf : Hid (kindFault k = 0) := if_neg (by omega)
    go_enter Try.func5, Try.ntmps5
    go_wp2_with fail
    refine (two_any _ _ _ _).mono ?_
    rintro e w1 ⟨rfl, rfl⟩
    rw [h22.out]
    go_wp2_with fail
    refine (foldCheck_any _ _).mono ?_
    rintro e w1 ⟨rfl, rfl⟩
    rw [hf.out, errV_zero]
    go_wp2_with fail
    refine (LightPairs_any _ _ l _ _ hl hs).mono ?_
    rintro e w1 ⟨rfl, rfl⟩
    cases hlp : lightPairs l 40
    · clear hlp
      go_wp2
      go_ret
      exact ⟨rfl, Below.refl _ _⟩
    · have hl40 := lightPairs_len hlp
      clear hlp
      go_wp2
      have hcell : ∀ q : Nat, q < 3 → ∃ x : Int, (w.alloc (.cells #[.int .i64 a, .int .i64 b, .int .i64 c] 3)).cell? ⟨w.heap.size, q, none⟩ = some (.int .i64 x) := by
        intro q hq
        have K := Bk.new (w := w) (cs := #[.int .i64 a, .int .i64 b, .int .i64 c]) (t := 3) rfl
        match q, hq with
        | 0, _ => exact ⟨a, K.get (j := 0) rfl⟩
        | 1, _ => exact ⟨b, K.get (j := 1) rfl⟩
        | 2, _ => exact ⟨c, K.get (j := 2) rfl⟩
      have HC := hide hcell
      have hb1 : Below w.heap.size w (w.alloc (.cells #[.int .i64 a, .int .i64 b, .int .i64 c] 3)) := (Below.refl _ _).alloc (Nat.le_refl _) _
      clear hcell
      generalize w.alloc (.cells #[.int .i64 a, .int .i64 b, .int .i64 c] 3) = w1 at *
      go_loop [33] (fun i => ∃ q : Nat, q ≤ 3 ∧ i = .int .i64 q) (fun i => 3 - (intOf i).toNat)
      case atStart => exact ⟨0, by omega, rfl⟩
      case round =>
        obtain ⟨q, hq, rfl⟩ := hrel
        by_cases hlt : q < 3
        · obtain ⟨x, hx⟩ := HC.out q hlt
          have f1 : (0 : Int) ≤ (q : Int) ∧ (q : Int) < 3 := by omega
          obtain ⟨f1, f2⟩ := f1
          by_cases h1 : x < -274877906944
          · have e1 : decide (x < -274877906944) = true := by simpa using h1
            go_wp2
            go_ret
            exact ⟨rfl, hb1⟩
          · have e1 : decide (x < -274877906944) = false := by simpa using h1
            by_cases h2 : 274877906944 < x
            · have e2 : decide (274877906944 < x) = true := by simpa using h2
              go_wp2
              go_ret
              exact ⟨rfl, hb1⟩
            · have e2 : decide (274877906944 < x) = false := by simpa using h2
              go_wp2
              go_round
              case rel => exact ⟨q + 1, by omega, by go_num⟩
              case measure => (simp [intOf]; try omega)
        · obtain rfl : q = 3 := by omega
          clear HC
          have hcm : Hid (two k b a = two k a b) := two_comm k b a
          have has : Hid (two k a (two k b c) = two k (two k a b) c) := two_assoc k a b c
          go_wp2_with fail
          refine (two_any _ _ _ _).mono ?_
          rintro e w2 ⟨rfl, rfl⟩
          go_wp2_with fail
          refine (two_any _ _ _ _).mono ?_
          rintro e w2 ⟨rfl, rfl⟩
          rw [hcm.out]
          have e1 : ∀ n : Int, (n == n) = true := fun n => by simp
          have e2 : ∀ n : Int, (n != n) = false := fun n => by simp
          go_wp2_with fail
          refine (two_any _ _ _ _).mono ?_
          rintro e w2 ⟨rfl, rfl⟩
          go_wp2_with fail
          refine (two_any _ _ _ _).mono ?_
          rintro e w2 ⟨rfl, rfl⟩
          go_wp2_with fail
          refine (two_any _ _ _ _).mono ?_
          rintro e w2 ⟨rfl, rfl⟩
          go_wp2_with fail
          refine (two_any _ _ _ _).mono ?_
          rintro e w2 ⟨rfl, rfl⟩
          rw [has.out]
          generalize two k (two k a b) c = z1
          generalize two k a b = z2
          generalize two k b c = z3
          clear hcm has
          go_wp2
          clear e1 e2
          go_loopw [13] (fun i wr => ∃ q : Nat, q ≤ l.length ∧ i = .int .i64 q ∧ Below w.heap.size w wr) (fun i _ => l.length - (intOf i).toNat)
          case atStart => exact ⟨0, by omega, by go_num, hb1⟩
          case round =>
            obtain ⟨q, hq, rfl, hbl⟩ := hrel
            by_cases hlt : q < l.length
            · obtain ⟨b0, off, x, y, rfl, hbw, hlk, c0, c1⟩ := (hs.later hbl (Nat.le_refl _)).pair hlt
              clear hlk
              go_wp2_with fail
              refine (PairCheck_any (x, y) _).mono ?_
              rintro e w2 ⟨rfl, b2⟩
              have hb2 := hbl.trans (b2.mono hbl.size)
              by_cases hpf : pairFault (x, y) = 0
              · have HP := hide hpf
                clear hpf
                rw [HP.out, errV_zero]
                go_wp2
                go_roundw
                case rel => exact ⟨q + 1, by omega, by go_num, hb2⟩
                case measure => (simp [intOf]; try omega)
              · have HP : Hid (errV (pairFault (x, y)) = .iface 68 (.int .i64 (pairFault (x, y)))) := errV_pos hpf
                clear hpf
                rw [HP.out]
                generalize pairFault (x, y) = z4
                go_wp2
                go_ret
                exact ⟨rfl, hb2⟩
            · obtain rfl : q = l.length := by omega
              go_wp2_with fail
              refine (Sort_any ao cap l _ (by omega) (hs.later hbl (Nat.le_refl _))).mono ?_
              rintro e w2 ⟨v, rfl, o2, b2⟩
              have hb2 := hbl.trans (b2.mono hbl.size)
              have hsl := srt_len l
              clear b2
              generalize srt l = s at *
              have hs40 : s.length ≤ 40 := by omega
              clear hsl hl hl40
              have hshape := o2.shape
              have HO := hide o2
              clear o2
              have hbase := hb2.size
              have hG := HO.out
              rcases hshape with ⟨e1, rfl⟩ | ⟨g, sc, rfl, hcap, hg1, hg2⟩
              · subst e1
                clear hG HO hs40
                obtain ⟨s, t1, t2, H0, H1, H2, hS, l0, l1, l2⟩ : ∃ s t1 t2 : List Pr, Hid (∀ w', Below w2.heap.size w2 w' → Calls Try.prog 31 #[.int .i64 k, .slice none 0 0] w' (GPost k s w')) ∧ Hid (∀ w', Below w2.heap.size w2 w' → Calls Try.prog 31 #[.int .i64 k, .slice none 0 0] w' (GPost k t1 w')) ∧ Hid (∀ w', Below w2.heap.size w2 w' → Calls Try.prog 31 #[.int .i64 k, .slice none 0 0] w' (GPost k t2 w')) ∧ Hid (t1 ++ t2 = s) ∧ s.length ≤ 40 ∧ t1.length ≤ 40 ∧ t2.length ≤ 40 :=
                  ⟨[], [], [], fun w' hb => Groups_any k none 0 [] w' (by decide) Sl.nil, fun w' hb => Groups_any k none 0 [] w' (by decide) Sl.nil, fun w' hb => Groups_any k none 0 [] w' (by decide) Sl.nil, rfl, by decide, by decide, by decide⟩
                go_wp2_with fail
                refine (H0.out _ (Below.refl _ _)).mono ?_
                rintro e w3 ⟨v1, rfl, o3, b3⟩
                have hb3 := hb2.trans (b3.mono hb2.size)
                have ON := hide o3
                clear o3
                go_wp2_with fail
                refine (H1.out _ b3).mono ?_
                rintro e w4 ⟨v2, rfl, o4, b4⟩
                have hb4 := hb3.trans (b4.mono hb3.size)
                have b34 := b3.trans (b4.mono b3.size)
                have ON4 := hide (ON.out.later b4)
                clear ON
                obtain ⟨ao4, cp4, rfl⟩ := o4.1
                have hn4 := o4.cap0
                have O4 := hide o4
                have g1 := groups_length k t1
                generalize hG1 : groups k t1 = G1 at *
                have HG1 := hide hG1
                clear o4 hG1
                go_wp2_with (at_builtin; refine wpList_append_any encP_len _ _ 53 ip _ rfl rfl Try.underlying53 hpi hpz0 hpz1 hpz2 rfl (by decide) (by decide) (Own.nil (base := w4.heap.size)) (Below.refl w4.heap.size w4) (Nat.le_refl _) G1 (by simp; omega) rfl ao4 cp4 _ rfl rfl hn4 (O4.out.sl encP_len) (one_flat one_pair) ?_; intro v5 w5 o5 b5 g5 a5)
                have O5 := hide o5
                have b35 := b34.trans (b5.mono b34.size)
                clear g5 a5 o5 hn4 O4
                go_wp2_with fail
                all_goals refine (H2.out _ b35).mono ?_
                all_goals rintro e w6 ⟨v6, rfl, o6, b6⟩
                all_goals
                  have b46 := b5.trans (b6.mono b5.size)
                  have O56 := hide (O5.out.later b6)
                  obtain ⟨ao6, cp6, rfl⟩ := o6.1
                  have hn6 := o6.cap0
                  have O6 := hide o6
                  have g2 := groups_length k t2
                  generalize hG2 : groups k t2 = G2 at *
                  have HG2 := hide hG2
                  clear o6 hG2
                  go_wp2_with (at_builtin; refine wpList_append_any encP_len _ _ 53 ip _ rfl rfl Try.underlying53 hpi hpz0 hpz1 hpz2 rfl (by decide) (by decide) O56.out b46 b46.size G2 (by simp; omega) rfl ao6 cp6 _ rfl rfl hn6 (O6.out.sl encP_len) (one_flat one_pair) ?_; intro v7 w7 o7 b7 g7 a7)
                  have hb7 := hb4.trans (b7.mono hb4.size)
                  have ON7 := hide (ON4.out.later b7)
                  have hgp : groups k ([] ++ G1 ++ G2) = groups k s := by rw [List.nil_append, ← HG1.out, ← HG2.out, groups_parts, hS.out]
                  have hlp : ([] ++ G1 ++ G2 : List Pr).length ≤ 80 := by simp; omega
                  have HGP := hide hgp
                  have HGG := hide (groups_groups k s)
                  have g0 := groups_length k s
                  generalize groups k s = GS at *
                  generalize hPP : ([] ++ G1 ++ G2 : List Pr) = PP at *
                  clear hPP hgp g7 a7 O56 ON4 O6 HG1 HG2 hn6 H0 H1 H2 O5
                  obtain ⟨ao1, cp1, rfl⟩ := ON7.out.1
                  obtain ⟨ao7, cp7, rfl⟩ := o7.1
                  have O7 := hide o7
                  clear o7
                  go_wp2_with fail
                  refine (Groups_any k ao1 cp1 GS _ (by omega) (ON7.out.sl encP_len)).mono ?_
                  rintro e w8 ⟨v8, rfl, o8, b8⟩
                  have hb8 := hb7.trans (b8.mono hb7.size)
                  rw [HGG.out] at o8
                  obtain ⟨ao8, cp8, rfl⟩ := o8.1
                  have O8 := hide o8
                  clear o8
                  go_wp2_with fail
                  refine (SamePairs_refl ao8 ao1 cp8 cp1 GS _ (by unfold maxLen; omega) (O8.out.sl encP_len) ((ON7.out.later b8).sl encP_len)).mono ?_
                  rintro e w9 ⟨rfl, b9⟩
                  have hb9 := hb8.trans (b9.mono hb8.size)
                  have b79 := b8.trans (b9.mono b8.size)
                  go_wp2_with fail
                  refine (Groups_any k ao7 cp7 PP _ (by omega) ((O7.out.later b79).sl encP_len)).mono ?_
                  rintro e w10 ⟨v10, rfl, o10, b10⟩
                  have hb10 := hb9.trans (b10.mono hb9.size)
                  have b710 := b79.trans (b10.mono b79.size)
                  rw [HGP.out] at o10
                  obtain ⟨ao10, cp10, rfl⟩ := o10.1
                  have O10 := hide o10
                  clear o10
                  go_wp2_with fail
                  refine (SamePairs_refl ao10 ao1 cp10 cp1 GS _ (by unfold maxLen; omega) (O10.out.sl encP_len) ((ON7.out.later b710).sl encP_len)).mono ?_
                  rintro e w11 ⟨rfl, b11⟩
                  go_wp2
                  go_ret
                  exact ⟨rfl, hb10.trans (b11.mono hb10.size)⟩
              · have hall : ∀ w', Below w2.heap.size w2 w' → Sl 2 encP w' (some ⟨g, 0, none⟩) s := fun w' hb => (hG.later hb).sl encP_len
                have H0 : Hid (∀ w', Below w2.heap.size w2 w' → Calls Try.prog 31 #[.int .i64 k, .slice (some ⟨g, 0, none⟩) s.length sc] w' (GPost k s w')) := fun w' hb => Groups_any k _ sc s w' (by omega) (hall w' hb)
                have l0 := hs40
                clear hG HO
                by_cases h0 : s.length = 0
                · obtain rfl := List.length_eq_zero_iff.1 h0
                  clear h0 hcap hs40 l0 H0
                  obtain ⟨s, t1, t2, H0, H1, H2, hS, l0, l1, l2⟩ : ∃ s t1 t2 : List Pr, Hid (∀ w', Below w2.heap.size w2 w' → Calls Try.prog 31 #[.int .i64 k, .slice (some ⟨g, 0, none⟩) 0 sc] w' (GPost k s w')) ∧ Hid (∀ w', Below w2.heap.size w2 w' → Calls Try.prog 31 #[.int .i64 k, .slice (some ⟨g, 0, none⟩) 0 sc] w' (GPost k t1 w')) ∧ Hid (∀ w', Below w2.heap.size w2 w' → Calls Try.prog 31 #[.int .i64 k, .slice (some ⟨g, 0, none⟩) 0 sc] w' (GPost k t2 w')) ∧ Hid (t1 ++ t2 = s) ∧ s.length ≤ 40 ∧ t1.length ≤ 40 ∧ t2.length ≤ 40 :=
                    ⟨[], [], [], fun w' hb => Groups_any k _ sc [] w' (by decide) (hall w' hb), fun w' hb => Groups_any k _ sc [] w' (by decide) (hall w' hb), fun w' hb => Groups_any k _ sc [] w' (by decide) (hall w' hb), rfl, by decide, by decide, by decide⟩
                  clear hall
                  go_wp2_with fail
                  refine (H0.out _ (Below.refl _ _)).mono ?_
                  rintro e w3 ⟨v1, rfl, o3, b3⟩
                  have hb3 := hb2.trans (b3.mono hb2.size)
                  have ON := hide o3
                  clear o3
                  go_wp2_with fail
                  refine (H1.out _ b3).mono ?_
                  rintro e w4 ⟨v2, rfl, o4, b4⟩
                  have hb4 := hb3.trans (b4.mono hb3.size)
                  have b34 := b3.trans (b4.mono b3.size)
                  have ON4 := hide (ON.out.later b4)
                  clear ON
                  obtain ⟨ao4, cp4, rfl⟩ := o4.1
                  have hn4 := o4.cap0
                  have O4 := hide o4
                  have g1 := groups_length k t1
                  generalize hG1 : groups k t1 = G1 at *
                  have HG1 := hide hG1
                  clear o4 hG1
                  go_wp2_with (at_builtin; refine wpList_append_any encP_len _ _ 53 ip _ rfl rfl Try.underlying53 hpi hpz0 hpz1 hpz2 rfl (by decide) (by decide) (Own.nil (base := w4.heap.size)) (Below.refl w4.heap.size w4) (Nat.le_refl _) G1 (by simp; omega) rfl ao4 cp4 _ rfl rfl hn4 (O4.out.sl encP_len) (one_flat one_pair) ?_; intro v5 w5 o5 b5 g5 a5)
                  have O5 := hide o5
                  have b35 := b34.trans (b5.mono b34.size)
                  clear g5 a5 o5 hn4 O4
                  go_wp2_with fail
                  all_goals refine (H2.out _ b35).mono ?_
                  all_goals rintro e w6 ⟨v6, rfl, o6, b6⟩
                  all_goals
                    have b46 := b5.trans (b6.mono b5.size)
                    have O56 := hide (O5.out.later b6)
                    obtain ⟨ao6, cp6, rfl⟩ := o6.1
                    have hn6 := o6.cap0
                    have O6 := hide o6
                    have g2 := groups_length k t2
                    generalize hG2 : groups k t2 = G2 at *
                    have HG2 := hide hG2
                    clear o6 hG2
                    go_wp2_with (at_builtin; refine wpList_append_any encP_len _ _ 53 ip _ rfl rfl Try.underlying53 hpi hpz0 hpz1 hpz2 rfl (by decide) (by decide) O56.out b46 b46.size G2 (by simp; omega) rfl ao6 cp6 _ rfl rfl hn6 (O6.out.sl encP_len) (one_flat one_pair) ?_; intro v7 w7 o7 b7 g7 a7)
                    have hb7 := hb4.trans (b7.mono hb4.size)
                    have ON7 := hide (ON4.out.later b7)
                    have hgp : groups k ([] ++ G1 ++ G2) = groups k s := by rw [List.nil_append, ← HG1.out, ← HG2.out, groups_parts, hS.out]
                    have hlp : ([] ++ G1 ++ G2 : List Pr).length ≤ 80 := by simp; omega
                    have HGP := hide hgp
                    have HGG := hide (groups_groups k s)
                    have g0 := groups_length k s
                    generalize groups k s = GS at *
                    generalize hPP : ([] ++ G1 ++ G2 : List Pr) = PP at *
                    clear hPP hgp g7 a7 O56 ON4 O6 HG1 HG2 hn6 H0 H1 H2 O5
                    obtain ⟨ao1, cp1, rfl⟩ := ON7.out.1
                    obtain ⟨ao7, cp7, rfl⟩ := o7.1
                    have O7 := hide o7
                    clear o7
                    go_wp2_with fail
                    refine (Groups_any k ao1 cp1 GS _ (by omega) (ON7.out.sl encP_len)).mono ?_
                    rintro e w8 ⟨v8, rfl, o8, b8⟩
                    have hb8 := hb7.trans (b8.mono hb7.size)
                    rw [HGG.out] at o8
                    obtain ⟨ao8, cp8, rfl⟩ := o8.1
                    have O8 := hide o8
                    clear o8
                    go_wp2_with fail
                    refine (SamePairs_refl ao8 ao1 cp8 cp1 GS _ (by unfold maxLen; omega) (O8.out.sl encP_len) ((ON7.out.later b8).sl encP_len)).mono ?_
                    rintro e w9 ⟨rfl, b9⟩
                    have hb9 := hb8.trans (b9.mono hb8.size)
                    have b79 := b8.trans (b9.mono b8.size)
                    go_wp2_with fail
                    refine (Groups_any k ao7 cp7 PP _ (by omega) ((O7.out.later b79).sl encP_len)).mono ?_
                    rintro e w10 ⟨v10, rfl, o10, b10⟩
                    have hb10 := hb9.trans (b10.mono hb9.size)
                    have b710 := b79.trans (b10.mono b79.size)
                    rw [HGP.out] at o10
                    obtain ⟨ao10, cp10, rfl⟩ := o10.1
                    have O10 := hide o10
                    clear o10
                    go_wp2_with fail
                    refine (SamePairs_refl ao10 ao1 cp10 cp1 GS _ (by unfold maxLen; omega) (O10.out.sl encP_len) ((ON7.out.later b710).sl encP_len)).mono ?_
                    rintro e w11 ⟨rfl, b11⟩
                    go_wp2
                    go_ret
                    exact ⟨rfl, hb10.trans (b11.mono hb10.size)⟩
                · have H1 : Hid (∀ w', Below w2.heap.size w2 w' → Calls Try.prog 31 #[.int .i64 k, .slice (some ⟨g, 0, none⟩) (s.length / 2) sc] w' (GPost k (s.take (s.length / 2)) w')) := fun w' hb => by
                    have h := Groups_any k _ sc (s.take (s.length / 2)) w' (by rw [List.length_take]; omega) ((hall w' hb).takeK _)
                    rw [List.length_take, Nat.min_eq_left (by omega)] at h
                    exact h
                  have H2 : Hid (∀ w', Below w2.heap.size w2 w' → Calls Try.prog 31 #[.int .i64 k, .slice (some ⟨g, s.length / 2 * 2, none⟩) (s.length - s.length / 2) (sc - s.length / 2)] w' (GPost k (s.drop (s.length / 2)) w')) := fun w' hb => by
                    have h := Groups_any k _ (sc - s.length / 2) (s.drop (s.length / 2)) w' (by rw [List.length_drop]; omega) ((hall w' hb).dropK (s.length / 2))
                    rw [List.length_drop, Nat.zero_add] at h
                    exact h
                  have hS : Hid (s.take (s.length / 2) ++ s.drop (s.length / 2) = s) := List.take_append_drop _ _
                  have l1 : (s.take (s.length / 2)).length ≤ 40 := by rw [List.length_take]; omega
                  have l2 : (s.drop (s.length / 2)).length ≤ 40 := by rw [List.length_drop]; omega
                  have f1 : (0 : Int) ≤ (s.length : Int) / 2 ∧ (s.length : Int) / 2 ≤ (sc : Int) ∧ (s.length : Int) / 2 < (s.length : Int) ∧ s.length / 2 < sc ∧ (s.length : Int) / 2 < (sc : Int) := by omega
                  obtain ⟨f1, f2, f3, f4, f5⟩ := f1
                  clear hall
                  go_wp2_with fail
                  refine (H0.out _ (Below.refl _ _)).mono ?_
                  rintro e w3 ⟨v1, rfl, o3, b3⟩
                  have hb3 := hb2.trans (b3.mono hb2.size)
                  have ON := hide o3
                  clear o3
                  go_wp2_with fail
                  refine (H1.out _ b3).mono ?_
                  rintro e w4 ⟨v2, rfl, o4, b4⟩
                  have hb4 := hb3.trans (b4.mono hb3.size)
                  have b34 := b3.trans (b4.mono b3.size)
                  have ON4 := hide (ON.out.later b4)
                  clear ON
                  obtain ⟨ao4, cp4, rfl⟩ := o4.1
                  have hn4 := o4.cap0
                  have O4 := hide o4
                  have g1 := groups_length k (s.take (s.length / 2))
                  generalize hG1 : groups k (s.take (s.length / 2)) = G1 at *
                  have HG1 := hide hG1
                  clear o4 hG1
                  go_wp2_with (at_builtin; refine wpList_append_any encP_len _ _ 53 ip _ rfl rfl Try.underlying53 hpi hpz0 hpz1 hpz2 rfl (by decide) (by decide) (Own.nil (base := w4.heap.size)) (Below.refl w4.heap.size w4) (Nat.le_refl _) G1 (by simp; omega) rfl ao4 cp4 _ rfl rfl hn4 (O4.out.sl encP_len) (one_flat one_pair) ?_; intro v5 w5 o5 b5 g5 a5)
                  have O5 := hide o5
                  have b35 := b34.trans (b5.mono b34.size)
                  clear g5 a5 o5 hn4 O4
                  go_wp2_with fail
                  all_goals refine (H2.out _ b35).mono ?_
                  all_goals rintro e w6 ⟨v6, rfl, o6, b6⟩
                  all_goals
                    have b46 := b5.trans (b6.mono b5.size)
                    have O56 := hide (O5.out.later b6)
                    obtain ⟨ao6, cp6, rfl⟩ := o6.1
                    have hn6 := o6.cap0
                    have O6 := hide o6
                    have g2 := groups_length k (s.drop (s.length / 2))
                    generalize hG2 : groups k (s.drop (s.length / 2)) = G2 at *
                    have HG2 := hide hG2
                    clear o6 hG2
                    go_wp2_with (at_builtin; refine wpList_append_any encP_len _ _ 53 ip _ rfl rfl Try.underlying53 hpi hpz0 hpz1 hpz2 rfl (by decide) (by decide) O56.out b46 b46.size G2 (by simp; omega) rfl ao6 cp6 _ rfl rfl hn6 (O6.out.sl encP_len) (one_flat one_pair) ?_; intro v7 w7 o7 b7 g7 a7)
                    have hb7 := hb4.trans (b7.mono hb4.size)
                    have ON7 := hide (ON4.out.later b7)
                    have hgp : groups k ([] ++ G1 ++ G2) = groups k s := by rw [List.nil_append, ← HG1.out, ← HG2.out, groups_parts, hS.out]
                    have hlp : ([] ++ G1 ++ G2 : List Pr).length ≤ 80 := by simp; omega
                    have HGP := hide hgp
                    have HGG := hide (groups_groups k s)
                    have g0 := groups_length k s
                    generalize groups k s = GS at *
                    generalize hPP : ([] ++ G1 ++ G2 : List Pr) = PP at *
                    clear hPP hgp g7 a7 O56 ON4 O6 HG1 HG2 hn6 H0 H1 H2 O5
                    obtain ⟨ao1, cp1, rfl⟩ := ON7.out.1
                    obtain ⟨ao7, cp7, rfl⟩ := o7.1
                    have O7 := hide o7
                    clear o7
                    go_wp2_with fail
                    refine (Groups_any k ao1 cp1 GS _ (by omega) (ON7.out.sl encP_len)).mono ?_
                    rintro e w8 ⟨v8, rfl, o8, b8⟩
                    have hb8 := hb7.trans (b8.mono hb7.size)
                    rw [HGG.out] at o8
                    obtain ⟨ao8, cp8, rfl⟩ := o8.1
                    have O8 := hide o8
                    clear o8
                    go_wp2_with fail
                    refine (SamePairs_refl ao8 ao1 cp8 cp1 GS _ (by unfold maxLen; omega) (O8.out.sl encP_len) ((ON7.out.later b8).sl encP_len)).mono ?_
                    rintro e w9 ⟨rfl, b9⟩
                    have hb9 := hb8.trans (b9.mono hb8.size)
                    have b79 := b8.trans (b9.mono b8.size)
                    go_wp2_with fail
                    refine (Groups_any k ao7 cp7 PP _ (by omega) ((O7.out.later b79).sl encP_len)).mono ?_
                    rintro e w10 ⟨v10, rfl, o10, b10⟩
                    have hb10 := hb9.trans (b10.mono hb9.size)
                    have b710 := b79.trans (b10.mono b79.size)
                    rw [HGP.out] at o10
                    obtain ⟨ao10, cp10, rfl⟩ := o10.1
                    have O10 := hide o10
                    clear o10
                    go_wp2_with fail
                    refine (SamePairs_refl ao10 ao1 cp10 cp1 GS _ (by unfold maxLen; omega) (O10.out.sl encP_len) ((ON7.out.later b710).sl encP_len)).mono ?_
                    rintro e w11 ⟨rfl, b11⟩
                    go_wp2
                    go_ret
                    exact ⟨rfl, hb10.trans (b11.mono hb10.size)⟩
  · have hf : Hid (kindFault k = 3) := if_pos (by omega)
    have herr : errV 3 = .iface 68 (.int .i64 3) := rfl
    go_enter Try.func5, Try.ntmps5
    go_wp2_with fail
    refine (two_any _ _ _ _).mono ?_
    rintro e w1 ⟨rfl, rfl⟩
    rw [h22.out]
    go_wp2_with fail
    refine (foldCheck_any _ _).mono ?_
    rintro e w1 ⟨rfl, rfl⟩
    rw [hf.out, herr]
    go_wp2
    go_ret
    exact ⟨rfl, Below.refl _ _⟩
set_option maxRecDepth 100000 in
theorem TopFold_lifted (os : Os) (started : os.Started) (H : Type) (enc : TypeId × Value → H) :
    ReturnsInHanded {} Try.checked os 5 .any (Rows.topFoldSpec.pre6 enc Try.prog Try.f5 Rows.topFoldRow.domain false) (Rows.topFoldSpec.post enc Try.prog Try.f5 false true false false) := by
  refine returnsInHanded_of_change (C := Try.checked) own started (by kernel_rfl) Try.func5
    (ChangeSpec.witness6 (enc := enc) (C := Try.checked) false ⟨#[], #[.int .i64 0, .int .i64 0, .int .i64 0, .int .i64 0, .slice none 0 0], []⟩ 8 (by kernel_rfl) (by kernel_rfl) (by kernel_rfl) (by kernel_rfl)) ?_
  intro W base args ds gs before hval0 hW hcnd _
  have hval : ∀ (j : Nat) t v, Try.f5.params[j]? = some t → args[j]? = some v → Value.okWide Try.prog W .any base t v := hval0
  have hW' := hW
  obtain ⟨p, q, hA0, hV, rfl, hfz, hnd⟩ := hW
  have hA : DataW.TrodAll enc Try.prog W 0 (fun _ => true) true Try.f5.params.toList args.toList ds p := hA0
  rw [Try.params5] at hA hval
  obtain ⟨v0, vs0, d0, ds0, p0, q0, hargs, rfl, rfl, h0, r0⟩ := trodAll_cons hA
  obtain ⟨v1, vs1, d1, ds1, p1, q1, rfl, rfl, rfl, h1, r1⟩ := trodAll_cons r0
  obtain ⟨v2, vs2, d2, ds2, p2, q2, rfl, rfl, rfl, h2, r2⟩ := trodAll_cons r1
  obtain ⟨v3, vs3, d3, ds3, p3, q3, rfl, rfl, rfl, h3, r3⟩ := trodAll_cons r2
  obtain ⟨v4, vs4, d4, ds4, p4, q4, rfl, rfl, rfl, h4, r4⟩ := trodAll_cons r3
  obtain ⟨rfl, rfl, rfl⟩ := trodAll_nil r4
  obtain rfl : args = #[v0, v1, v2, v3, v4] := by cases args; simp_all
  obtain ⟨rfl, rfl⟩ := trodVars_none hV
  have lt0 : ∀ x ∈ p0, x.block < W.heap.size := by obtain ⟨m, hm⟩ := h0; exact DataW.trod_lt m _ _ _ hm
  have k0 := hval 0 3 v0 rfl rfl
  have g0 := h0
  have lt1 : ∀ x ∈ p1, x.block < W.heap.size := by obtain ⟨m, hm⟩ := h1; exact DataW.trod_lt m _ _ _ hm
  have k1 := hval 1 3 v1 rfl rfl
  have g1 := h1
  have lt2 : ∀ x ∈ p2, x.block < W.heap.size := by obtain ⟨m, hm⟩ := h2; exact DataW.trod_lt m _ _ _ hm
  have k2 := hval 2 3 v2 rfl rfl
  have g2 := h2
  have lt3 : ∀ x ∈ p3, x.block < W.heap.size := by obtain ⟨m, hm⟩ := h3; exact DataW.trod_lt m _ _ _ hm
  have k3 := hval 3 3 v3 rfl rfl
  have g3 := h3
  have lt4 : ∀ x ∈ p4, x.block < W.heap.size := by obtain ⟨m, hm⟩ := h4; exact DataW.trod_lt m _ _ _ hm
  have k4 := hval 4 53 v4 rfl rfl
  have g4 := h4
  clear hA0 hval0
  obtain ⟨k, rfl, rfl, rfl, _⟩ := open_int Try.underlying3 k0 h0
  obtain ⟨a, rfl, rfl, rfl, _⟩ := open_int Try.underlying3 k1 h1
  obtain ⟨b, rfl, rfl, rfl, _⟩ := open_int Try.underlying3 k2 h2
  obtain ⟨c, rfl, rfl, rfl, _⟩ := open_int Try.underlying3 k3 h3
  obtain ⟨ao, cap, l, rfl, hs0, hm0, _⟩ := open_sl Try.underlying53 cells_pair (by decide) el_pair (okWide_slice Try.underlying53 k4) h4
  refine (TopFold_walk k a b c ao cap l W hm0 hs0).mono fun e W' ⟨he, bel⟩ => ?_
  subst he
  exact ⟨_, rfl, _, _, _, [], _, [], hW', trodAll_mk1 (shut_bool Try.underlying4 _), (trodAll_cons_mk (Below.trod laidOut (by kernel_rfl) (of_decide_eq_true (by kernel_rfl)) g0 bel lt0) (trodAll_cons_mk (Below.trod laidOut (by kernel_rfl) (of_decide_eq_true (by kernel_rfl)) g1 bel lt1) (trodAll_cons_mk (Below.trod laidOut (by kernel_rfl) (of_decide_eq_true (by kernel_rfl)) g2 bel lt2) (trodAll_cons_mk (Below.trod laidOut (by kernel_rfl) (of_decide_eq_true (by kernel_rfl)) g3 bel lt3) (trodAll_cons_mk (Below.trod laidOut (by kernel_rfl) (of_decide_eq_true (by kernel_rfl)) g4 bel lt4) trodAll_mk0))))), rfl, bel.frame _, fun h => by cases h⟩

theorem TopFold_holds : Rows.TopFoldSaid :=
  OpenClaim.holds_of_wide 5 Try.f5 rfl rfl rfl rfl rfl rfl rfl ⟨rfl, rfl, rfl, rfl, rfl⟩ rfl rfl rfl rfl rfl (by kernel_rfl) Try.func5 (by kernel_rfl)
    (of_decide_eq_true (by kernel_rfl)) (by unfold Func.isWrapper; first | (rw [if_pos (by decide +kernel)]; kernel_rfl) | (rw [if_neg (by decide +kernel)]; exact ⟨rfl, rfl⟩))
    (fun os started H enc _ => TopFold_lifted os started H enc)
#print axioms TopFold_holds
end Go.Proofs.Ytidhjpjeehoglaa
