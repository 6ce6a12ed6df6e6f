/- The law of tasks: the closed fact, what both have. -/
import Derived.Test.YtllibbdgnjcchaaRefTasks4
import Derived.Test.YtllibbdgnjcchaaActs
import Derived.Test.YtllibbdgnjcchaaErr
namespace Go.Proofs.Ytllibbdgnjcchaa
open Go.RowKit

/-- Both tasks in memory, at one moment of the law. -/
structure TS (w0 w : World) (bt bm tb pb sb mb qb rb hb : Nat) (ps ss : List (Int × Int)) (W : List Int) : Prop where
  rt : RT w bt tb pb sb ps ss
  rm : RM w bm mb qb rb hb (ps.map (·.1)) (ss.map (·.1)) W
  wr : WR ps W
  bel : Below w0.heap.size w0 w
  h0 : w0.heap.size ≤ bt
  h1 : tb < bm ∧ pb < bm ∧ sb < bm ∧ w0.heap.size ≤ tb ∧ w0.heap.size ≤ pb ∧ w0.heap.size ≤ sb
  h2 : bm ≤ mb ∧ bm ≤ qb ∧ bm ≤ rb ∧ bm ≤ hb
  h3 : mb < w.heap.size ∧ qb < w.heap.size ∧ rb < w.heap.size ∧ hb < w.heap.size
theorem TS.below {w0 w w' : World} {bt bm tb pb sb mb qb rb hb : Nat} {ps ss : List (Int × Int)} {W : List Int} (h : TS w0 w bt bm tb pb sb mb qb rb hb ps ss W) (k : Below w.heap.size w w') : TS w0 w' bt bm tb pb sb mb qb rb hb ps ss W :=
  ⟨h.rt.below k, h.rm.below k, h.wr, h.bel.trans (k.mono h.bel.size), h.h0, h.h1, h.h2, by have := h.h3; have := k.size; omega⟩

set_option maxHeartbeats 1000000 in
theorem lists_any (w : World) : Calls Try.prog 37 #[] w fun e w' => e = .returned (.bool true) ∧ Below w.heap.size w w' := by
  go_enter Try.func37, Try.ntmps37
  go_wp2_with fail
  refine (NewTasks_ok 1 1 _ (by decide) (by decide) (by decide)).mono ?_
  rintro e w1 ⟨tb, pb, sb, rfl, hb1, t1, t2, t3, p1, p2, hrt⟩
  go_wp2_with fail
  refine (Next_any hrt).mono ?_
  rintro e w2 ⟨rfl, hb2⟩
  have hn : triple (nextT (List.replicate 1 (0, 0)) (List.replicate 1 (0, 0))) = .tuple #[.bool false, .int .i64 0, .bool true] := by
    have : nextT (List.replicate 1 (0, 0)) (List.replicate 1 (0, 0)) = (false, 0, true) := by decide
    rw [this]; rfl
  rw [hn]
  clear hn
  have hrt2 := hrt.below hb2
  go_wp2_with fail
  refine (Begin_yes (fold := false) (k := 0) (a := 0) (b := 0) hrt2 rfl rfl).mono ?_
  rintro e w3 ⟨rfl, hk3, _⟩
  go_wp2
  go_ret
  exact ⟨rfl, (hb1.trans (hb2.mono hb1.size)).trans (hk3.below (B := w.heap.size) (fun k e => by subst e; exact p1) (by have := hb1.size; have := hb2.size; omega))⟩
theorem Own.addrGe {α : Type} {sz : Nat} {enc : α → List Value} {e : TypeId} {w : World} {base g n cap : Nat} {l : List α} (h : Own sz enc e w base (.slice (some ⟨g, 0, none⟩) n cap) l) : base ≤ g := (h.lt g rfl).1

theorem cnt_take_all (l : List (Int × Int)) (z : Int) (h : (l.length : Int) ≤ z) : cnt (l.take z.toNat) = cnt l := by
  rw [List.take_of_length_le (by omega)]
theorem below_set {B b o : Nat} {w w' : World} (h : Below B w w') (hb : B ≤ b) (hB : B ≤ w.heap.size) (u : Value) : Below B w (w'.setCell ⟨b, o, none⟩ u) :=
  h.trans (((KeptBut.refl (fun q => q = b) w').setCell (p := ⟨b, o, none⟩) rfl u).below (fun k e => by subst e; exact hb) (by have := h.size; omega))

set_option maxRecDepth 100000 in
set_option maxHeartbeats 8000000 in
theorem asTasks_any {w : World} {bt bm tb pb sb mb qb rb hb : Nat} {ps ss : List (Int × Int)} {W : List Int} (h1 : RT w bt tb pb sb ps ss) (h2 : RM w bm mb qb rb hb (ps.map (·.1)) (ss.map (·.1)) W) :
    Calls Try.prog 46 #[.pointer (some ⟨tb, 0, none⟩), .pointer (some ⟨mb, 0, none⟩)] w fun e w' => e = .returned (.bool true) ∧ Below w.heap.size w w' := by
  have hlp := h1.lp
  have hls := h1.ls
  have H1 := hide h1; have H2 := hide h2
  clear h1 h2
  have N1 := hide (Next_any H1.out)
  have N2 := fun (w' : World) (hw : Below w.heap.size w w') => NextOf_any (H2.out.below hw)
  have N2 := hide N2
  generalize nextT ps ss = t at N1 N2
  obtain ⟨f, i, o⟩ := t
  go_enter Try.func46, Try.ntmps46
  go_wp2_with fail
  refine N1.out.mono ?_
  rintro e w1 ⟨rfl, b1⟩
  rw [show triple (f, i, o) = .tuple #[.bool f, .int .i64 i, .bool o] from rfl]
  go_wp2_with fail
  refine (N2.out _ b1).mono ?_
  rintro e w2 ⟨rfl, rfl⟩
  rw [show triple (f, i, o) = .tuple #[.bool f, .int .i64 i, .bool o] from rfl]
  clear N1 N2
  have g1 : (f != f) = false := by simp
  have g2 : (i != i) = false := by simp
  have g3 : (o != o) = false := by simp
  have M1 := hide (Mapped_any (H1.out.below b1))
  have g4 : (allDone ps != allDone ps) = false := by simp
  have g5 : (allDone ss != allDone ss) = false := by simp
  generalize hdp : allDone ps = dp at *
  generalize hds : allDone ss = ds at *
  have HDP := hide hdp; have HDS := hide hds
  clear hdp hds
  go_wp2_with fail
  refine M1.out.mono ?_
  rintro e w3 ⟨rfl, b3⟩
  have b3' := b1.trans (b3.mono b1.size)
  have O1 := hide (Over_any false (H2.out.below b3'))
  rw [show allTwo (listOf false (ps.map (·.1)) (ss.map (·.1))) = dp from (allTwo_map ps).trans HDP.out] at O1
  go_wp2_with fail
  refine O1.out.mono ?_
  rintro e w4 ⟨rfl, rfl⟩
  clear O1 M1
  have M2 := hide (Out_any (H1.out.below b3'))
  rw [show allDone ss = ds from HDS.out] at M2
  go_wp2_with fail
  refine M2.out.mono ?_
  rintro e w5 ⟨rfl, b5⟩
  have b5' := b3'.trans (b5.mono b3'.size)
  have O2 := hide (Over_any true (H2.out.below b5'))
  rw [show allTwo (listOf true (ps.map (·.1)) (ss.map (·.1))) = ds from (allTwo_map ss).trans HDS.out] at O2
  go_wp2_with fail
  refine O2.out.mono ?_
  rintro e w6 ⟨rfl, rfl⟩
  clear O2 M2 b3 b5 b1 b3' g1 g2 g3 g4 g5 HDP HDS
  have hsz := b5'.size
  go_wp2
  have hdb : Own 1 encInt 119 (w5.alloc (.cells #[.int .i64 0, .int .i64 0] 119)) w.heap.size (.slice (some ⟨w5.heap.size, 0, none⟩) 2 2) [((0 : Nat) : Int), ((0 : Nat) : Int)] :=
    Own.lit (l := [((0 : Nat) : Int), ((0 : Nat) : Int)]) encInt_len (heap_new _ _) hsz rfl (by decide)
  have hb0 : Below w.heap.size w (w5.alloc (.cells #[.int .i64 0, .int .i64 0] 119)) := b5'.alloc hsz _
  have hcp := cnt_le ps
  have hcs := cnt_le ss
  generalize w5.heap.size = db at *
  generalize (w5.alloc (.cells #[.int .i64 0, .int .i64 0] 119)) = w7 at *
  clear b5'
  go_loopw [12] (fun n wr => ∃ k : Nat, k ≤ 2 ∧ n = .int .i64 k ∧ Below w.heap.size w wr ∧ Own 1 encInt 119 wr w.heap.size (.slice (some ⟨db, 0, none⟩) 2 2) [((if k = 0 then 0 else cnt ps : Nat) : Int), ((if k = 2 then cnt ss else 0 : Nat) : Int)]) (fun n _ => 2 - (intOf n).toNat)
  case atStart => exact ⟨0, by omega, rfl, hb0, hdb⟩
  clear hb0 hdb
  case round =>
    obtain ⟨k, hk, rfl, hbw, hdw⟩ := hrel
    by_cases hlt : k < 2
    · obtain ⟨wo, rfl⟩ : ∃ wo, wo = wr := ⟨_, rfl⟩
      obtain rfl | rfl : k = 0 ∨ k = 1 := by omega
      · have L1 : Hid (Calls Try.prog 61 #[.pointer (some ⟨mb, 0, none⟩), .bool false] wo fun e w' => e = .returned (.slice (some ⟨qb, 0, none⟩) ps.length ps.length) ∧ wo = w') := by
          have := List_any false (H2.out.below hbw)
          rw [show (listOf false (ps.map (·.1)) (ss.map (·.1))).length = ps.length from List.length_map ..] at this
          exact this
        have hdw' : Own 1 encInt 119 wo w.heap.size (.slice (some ⟨db, 0, none⟩) 2 2) [((0 : Nat) : Int), ((0 : Nat) : Int)] := hdw
        clear hdw
        go_wp2_with fail
        refine L1.out.mono ?_
        rintro e w1 ⟨rfl, rfl⟩
        clear L1
        go_wp2
        go_loopw [14] (fun i wr => ∃ z : Int, -1 ≤ z ∧ z ≤ ps.length + 1 ∧ i = .int .i64 z ∧ Below w.heap.size w wr ∧ Own 1 encInt 119 wr w.heap.size (.slice (some ⟨db, 0, none⟩) 2 2) [((cnt (ps.take z.toNat) : Nat) : Int), ((0 : Nat) : Int)]) (fun i _ => ps.length + 2 - (intOf i + 1).toNat)
        case atStart => exact ⟨-1, by omega, by omega, rfl, hbw, hdw'⟩
        clear hbw hdw'
        case round =>
          obtain ⟨z, hz1, hz2, rfl, hbw, hdw⟩ := hrel
          by_cases hzi : 0 ≤ z ∧ z < ps.length
          · obtain ⟨m, rfl⟩ : ∃ m : Nat, z = m := ⟨z.toNat, by omega⟩
            have hm : m < ps.length := by omega
            rw [Int.toNat_natCast] at hdw
            obtain ⟨a, b, hab⟩ : ∃ a b, ps[m]? = some (a, b) := ⟨ps[m].1, ps[m].2, by simp [hm]⟩
            have S1 := hide (State_yes (fold := false) (H1.out.below hbw) hab)
            have hc : cnt (ps.take (m + 1)) = cnt (ps.take m) + if a == 2 then 1 else 0 := cnt_succ hab
            have hcl : cnt (ps.take m) ≤ 60 := by
              have := cnt_le (ps.take m); rw [List.length_take] at this; omega
            obtain ⟨q0, _, _, _⟩ := (H2.out.below hbw).elem (fold := false) (k := m) (a := a) (by show (ps.map (·.1))[m]? = _; rw [List.getElem?_map, hab]; rfl)
            have q0' : wr.cell? ⟨qb, m, none⟩ = some (.int .i64 a) := q0
            have d0 : wr.cell? ⟨db, 0, none⟩ = some (.int .i64 (cnt (ps.take m) : Nat)) := by
              have := hdw.cellAt (i := 0) (j := 0) encInt_len rfl rfl
              simpa using this
            have dz : wr.frozen? ⟨db, 0, none⟩ = false := hdw.frozenAt _
            have gaa : (a != a) = false := by simp
            have ge : w.heap.size ≤ db := hdw.addrGe
            clear q0 hab hzi
            generalize cnt (ps.take m) = cm at *
            go_wp2_with fail
            refine S1.out.mono ?_
            rintro e w1 ⟨rfl, rfl⟩
            clear S1
            cases g2 : (a == 2)
            · have hc' : cnt (ps.take (m + 1)) = cm := by rw [hc, g2]; rfl
              have HC := hide hc'; clear hc hc'
              go_wp2
              go_roundw
              case rel => exact ⟨(m : Int) + 1, by omega, by omega, by go_num, hbw, by
                have e1 : ((m : Int) + 1).toNat = m + 1 := by omega
                rw [e1, HC.out]; exact hdw⟩
              case measure => simp [intOf]; omega
            · have hc' : cnt (ps.take (m + 1)) = cm + 1 := by rw [hc, g2]; rfl
              have HC := hide hc'; clear hc hc'
              go_wp2
              go_roundw
              case rel => exact ⟨(m : Int) + 1, by omega, by omega, by go_num, hbw.setCell ge _, by
                have e1 : ((m : Int) + 1).toNat = m + 1 := by omega
                rw [e1, HC.out]
                have := hdw.set' (k := 0) (j := 0) (y := ((cm + 1 : Nat) : Int)) (u := .int .i64 ((cm + 1 : Nat) : Int)) encInt_len rfl (by decide) rfl
                simpa using this⟩
              case measure => simp [intOf]; omega
          · by_cases hzo : z ≤ ps.length
            · have S1 := hide (State_no (fold := false) (i := z) (H1.out.below hbw) hzi)
              have HN := hide (same_any 5 5 wr (by decide))
              rw [show decide ((5 : Int) = 5) = true by decide] at HN
              go_wp2_with fail
              refine S1.out.mono ?_
              rintro e w1 ⟨rfl, rfl⟩
              clear S1
              by_cases hz0 : z < 0
              · have f1 : decide (z < 0) = true := by simpa using hz0
                go_wp2_with fail
                refine HN.out.mono ?_
                rintro e w1 ⟨rfl, rfl⟩
                go_wp2
                go_roundw
                case rel => exact ⟨z + 1, by omega, by omega, by go_num, hbw, by
                  obtain rfl : z = -1 := by omega
                  exact hdw⟩
                case measure => simp [intOf]; omega
              · have f1 : decide (z < 0) = false := by simpa using hz0
                obtain rfl : z = (ps.length : Int) := by omega
                go_wp2_with fail
                refine HN.out.mono ?_
                rintro e w1 ⟨rfl, rfl⟩
                go_wp2
                go_roundw
                case rel => exact ⟨(ps.length : Int) + 1, by omega, by omega, by go_num, hbw, by
                  rw [cnt_take_all _ _ (by omega)]; rw [cnt_take_all _ _ (by omega)] at hdw; exact hdw⟩
                case measure => simp [intOf]; omega
            · rw [cnt_take_all _ _ (by omega)] at hdw
              go_wp2
              go_roundw
              case rel => exact ⟨1, by omega, by go_num, hbw, hdw⟩
              case measure => simp [intOf]
      · have L1 : Hid (Calls Try.prog 61 #[.pointer (some ⟨mb, 0, none⟩), .bool true] wo fun e w' => e = .returned (.slice (some ⟨rb, 0, none⟩) ss.length ss.length) ∧ wo = w') := by
          have := List_any true (H2.out.below hbw)
          rw [show (listOf true (ps.map (·.1)) (ss.map (·.1))).length = ss.length from List.length_map ..] at this
          exact this
        have hdw' : Own 1 encInt 119 wo w.heap.size (.slice (some ⟨db, 0, none⟩) 2 2) [((cnt ps : Nat) : Int), ((0 : Nat) : Int)] := hdw
        clear hdw
        go_wp2_with fail
        refine L1.out.mono ?_
        rintro e w1 ⟨rfl, rfl⟩
        clear L1
        go_wp2
        go_loopw [14] (fun i wr => ∃ z : Int, -1 ≤ z ∧ z ≤ ss.length + 1 ∧ i = .int .i64 z ∧ Below w.heap.size w wr ∧ Own 1 encInt 119 wr w.heap.size (.slice (some ⟨db, 0, none⟩) 2 2) [((cnt ps : Nat) : Int), ((cnt (ss.take z.toNat) : Nat) : Int)]) (fun i _ => ss.length + 2 - (intOf i + 1).toNat)
        case atStart => exact ⟨-1, by omega, by omega, rfl, hbw, hdw'⟩
        clear hbw hdw'
        case round =>
          obtain ⟨z, hz1, hz2, rfl, hbw, hdw⟩ := hrel
          by_cases hzi : 0 ≤ z ∧ z < ss.length
          · obtain ⟨m, rfl⟩ : ∃ m : Nat, z = m := ⟨z.toNat, by omega⟩
            have hm : m < ss.length := by omega
            rw [Int.toNat_natCast] at hdw
            obtain ⟨a, b, hab⟩ : ∃ a b, ss[m]? = some (a, b) := ⟨ss[m].1, ss[m].2, by simp [hm]⟩
            have S1 := hide (State_yes (fold := true) (H1.out.below hbw) hab)
            have hc : cnt (ss.take (m + 1)) = cnt (ss.take m) + if a == 2 then 1 else 0 := cnt_succ hab
            have hcl : cnt (ss.take m) ≤ 60 := by
              have := cnt_le (ss.take m); rw [List.length_take] at this; omega
            obtain ⟨q0, _, _, _⟩ := (H2.out.below hbw).elem (fold := true) (k := m) (a := a) (by show (ss.map (·.1))[m]? = _; rw [List.getElem?_map, hab]; rfl)
            have q0' : wr.cell? ⟨rb, m, none⟩ = some (.int .i64 a) := q0
            have d0 : wr.cell? ⟨db, 1, none⟩ = some (.int .i64 (cnt (ss.take m) : Nat)) := by
              have := hdw.cellAt (i := 1) (j := 0) encInt_len rfl rfl
              simpa using this
            have dz : wr.frozen? ⟨db, 1, none⟩ = false := hdw.frozenAt _
            have gaa : (a != a) = false := by simp
            have ge : w.heap.size ≤ db := hdw.addrGe
            clear q0 hab hzi
            generalize cnt (ss.take m) = cm at *
            go_wp2_with fail
            refine S1.out.mono ?_
            rintro e w1 ⟨rfl, rfl⟩
            clear S1
            cases g2 : (a == 2)
            · have hc' : cnt (ss.take (m + 1)) = cm := by rw [hc, g2]; rfl
              have HC := hide hc'; clear hc hc'
              go_wp2
              go_roundw
              case rel => exact ⟨(m : Int) + 1, by omega, by omega, by go_num, hbw, by
                have e1 : ((m : Int) + 1).toNat = m + 1 := by omega
                rw [e1, HC.out]; exact hdw⟩
              case measure => simp [intOf]; omega
            · have hc' : cnt (ss.take (m + 1)) = cm + 1 := by rw [hc, g2]; rfl
              have HC := hide hc'; clear hc hc'
              go_wp2
              go_roundw
              case rel => exact ⟨(m : Int) + 1, by omega, by omega, by go_num, hbw.setCell ge _, by
                have e1 : ((m : Int) + 1).toNat = m + 1 := by omega
                rw [e1, HC.out]
                have := hdw.set' (k := 1) (j := 0) (y := ((cm + 1 : Nat) : Int)) (u := .int .i64 ((cm + 1 : Nat) : Int)) encInt_len rfl (by decide) rfl
                simpa using this⟩
              case measure => simp [intOf]; omega
          · by_cases hzo : z ≤ ss.length
            · have S1 := hide (State_no (fold := true) (i := z) (H1.out.below hbw) hzi)
              have HN := hide (same_any 5 5 wr (by decide))
              rw [show decide ((5 : Int) = 5) = true by decide] at HN
              go_wp2_with fail
              refine S1.out.mono ?_
              rintro e w1 ⟨rfl, rfl⟩
              clear S1
              by_cases hz0 : z < 0
              · have f1 : decide (z < 0) = true := by simpa using hz0
                go_wp2_with fail
                refine HN.out.mono ?_
                rintro e w1 ⟨rfl, rfl⟩
                go_wp2
                go_roundw
                case rel => exact ⟨z + 1, by omega, by omega, by go_num, hbw, by
                  obtain rfl : z = -1 := by omega
                  exact hdw⟩
                case measure => simp [intOf]; omega
              · have f1 : decide (z < 0) = false := by simpa using hz0
                obtain rfl : z = (ss.length : Int) := by omega
                go_wp2_with fail
                refine HN.out.mono ?_
                rintro e w1 ⟨rfl, rfl⟩
                go_wp2
                go_roundw
                case rel => exact ⟨(ss.length : Int) + 1, by omega, by omega, by go_num, hbw, by
                  rw [cnt_take_all _ _ (by omega)]; rw [cnt_take_all _ _ (by omega)] at hdw; exact hdw⟩
                case measure => simp [intOf]; omega
            · rw [cnt_take_all _ _ (by omega)] at hdw
              go_wp2
              go_roundw
              case rel => exact ⟨2, by omega, by go_num, hbw, hdw⟩
              case measure => simp [intOf]
    · obtain rfl : k = 2 := by omega
      have hdw' : Own 1 encInt 119 wr w.heap.size (.slice (some ⟨db, 0, none⟩) 2 2) [((cnt ps : Nat) : Int), ((cnt ss : Nat) : Int)] := hdw
      have C1 := hide (Count_any (H1.out.below hbw))
      clear hdw
      go_wp2_with fail
      refine C1.out.mono ?_
      rintro e w1 ⟨rfl, b1⟩
      have hdv := hdw'.later b1
      have d0 : w1.cell? ⟨db, 0, none⟩ = some (.int .i64 (cnt ps : Nat)) := by
        have := hdv.cellAt (i := 0) (j := 0) encInt_len rfl rfl
        simpa using this
      have d1 : w1.cell? ⟨db, 1, none⟩ = some (.int .i64 (cnt ss : Nat)) := by
        have := hdv.cellAt (i := 1) (j := 0) encInt_len rfl rfl
        simpa using this
      generalize cnt ps = x at *
      generalize cnt ss = y at *
      have gx : ((x : Int) == (x : Int)) = true := by simp
      have gy : ((y : Int) == (y : Int)) = true := by simp
      go_wp2
      go_ret
      exact ⟨rfl, hbw.trans (b1.mono hbw.size)⟩
end Go.Proofs.Ytllibbdgnjcchaa
