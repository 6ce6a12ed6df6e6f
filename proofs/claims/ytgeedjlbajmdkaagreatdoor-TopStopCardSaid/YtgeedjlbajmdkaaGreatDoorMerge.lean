/- order.Merge: lists that rise, as one. -/
import Derived.Test.YtgeedjlbajmdkaaGreatDoorOrder2
import Derived.Test.YtgeedjlbajmdkaaGreatDoorSort
set_option linter.unusedSimpArgs false
set_option linter.unusedVariables false
namespace Go.Proofs.YtgeedjlbajmdkaaGreatDoor
open Go.RowKit

/-- A row of a slice of slices: where it lies, its capacity, what it holds. -/
abbrev RowP := Option Addr × Nat × List Pr
def encRow (r : RowP) : List Value := [.slice r.1 r.2.2.length r.2.1]
theorem encRow_len (r : RowP) : (encRow r).length = 1 := rfl
theorem Sl.row {w : World} {ao : Option Addr} {l : List RowP} (h : Sl 1 encRow w ao l) {k : Nat} (hk : k < l.length) :
    ∃ b off ra rc rl, ao = some ⟨b, off, none⟩ ∧ b < w.heap.size ∧ l[k]? = some (ra, rc, rl) ∧ w.cell? ⟨b, off + k, none⟩ = some (.slice ra rl.length rc) := by
  obtain ⟨b, off, e, hlt, hc⟩ := h (by omega)
  refine ⟨b, off, l[k].1, l[k].2.1, l[k].2.2, e, hlt, by simp [hk], ?_⟩
  have := hc k l[k] 0 _ (by simp [hk]) rfl
  simpa using this
def encN (n : Nat) : List Value := [.int .i64 n]
theorem encN_len (n : Nat) : (encN n).length = 1 := rfl
def lenOf : Value → Nat
  | .slice _ n _ => n
  | _ => 0
def rowsL (rs : List RowP) : List (List Pr) := rs.map (·.2.2)
theorem rowsL_get {rs : List RowP} {k : Nat} {a : Option Addr} {c : Nat} {l : List Pr} (h : rs[k]? = some (a, c, l)) : (rowsL rs)[k]? = some l := by
  unfold rowsL; rw [List.getElem?_map, h]; rfl
/-- What holds at the head of Merge's round. -/
structure MG (w wr : World) (rs : List RowP) (A : List Nat) (out : List Pr) (v : Value) : Prop where
  oo : Own 2 encP 101 wr (w.heap.size + 1) v out
  oa : Own 1 encN 3 wr w.heap.size (.slice (some ⟨w.heap.size, 0, none⟩) rs.length rs.length) A
  la : A.length = rs.length
  bel : Below w.heap.size w wr
  eq : out ++ srt (left A (rowsL rs)).flatten = srt (rowsL rs).flatten
  lt : w.heap.size < wr.heap.size
theorem infoInt1 : (Tryz.prog.info? 3).map (fun i => (i.zero, i.size, i.bytes)) = some (some (.int .i64 0), 1, 8) := by kernel_rfl
theorem MG.drewN {w wr : World} {rs : List RowP} {A : List Nat} {out : List Pr} {v : Value} (h : MG w wr rs A out v) (n : Nat) : MG w (wr.drewN n) rs A out v :=
  ⟨h.oo.drewN n, h.oa.drewN n, h.la, below_drewN h.bel n, h.eq, h.lt⟩
/-- what the round reads of list k: its header, how far it is, the pair there -/
theorem MG.here {w wr : World} {ao : Option Addr} {rs : List RowP} {A : List Nat} {out : List Pr} {v : Value} (h : MG w wr rs A out v) (hs : Sl 1 encRow w ao rs) (hrow : ∀ r ∈ rs, Sl 2 encP w r.1 r.2.2) {k : Nat} (hk : k < rs.length) :
    ∃ b off ra rc l a, ao = some ⟨b, off, none⟩ ∧ b < w.heap.size ∧ (rowsL rs)[k]? = some l ∧ A[k]? = some a ∧ wr.cell? ⟨b, off + k, none⟩ = some (.slice ra l.length rc) ∧ wr.cell? ⟨w.heap.size, k, none⟩ = some (.int .i64 a) ∧
      (a < l.length → ∃ b2 off2 x y, ra = some ⟨b2, off2, none⟩ ∧ b2 < w.heap.size ∧ l[a]? = some (x, y) ∧ wr.cell? ⟨b2, off2 + a * 2, none⟩ = some (.string x) ∧ wr.cell? ⟨b2, off2 + a * 2 + 1, none⟩ = some (.int .i64 y)) := by
  obtain ⟨b, off, ra, rc, l, e1, _, e2, e3⟩ := (hs.later h.bel (Nat.le_refl _)).row hk
  have ha : A[k]? = some (A[k]'(by rw [h.la]; exact hk)) := List.getElem?_eq_getElem _
  have hc := Own.cellAt (j := 0) encN_len h.oa ha rfl
  obtain ⟨b', off', e1', hbw, _⟩ := hs (by omega)
  rw [e1] at e1'
  cases e1'
  refine ⟨b, off, ra, rc, l, _, e1, hbw, rowsL_get e2, ha, e3, by simpa using hc, fun hlt => ?_⟩
  obtain ⟨b2, off2, x, y, f1, _, f2, f3, f4⟩ := ((hrow _ (List.mem_of_getElem? e2)).later h.bel (Nat.le_refl _)).pair hlt
  obtain ⟨b', off', e1', hbw2, _⟩ := hrow _ (List.mem_of_getElem? e2) (by show 0 < l.length; omega)
  rw [f1] at e1'
  cases e1'
  exact ⟨b2, off2, x, y, f1, hbw2, f2, f3, f4⟩
set_option maxRecDepth 100000 in
set_option maxHeartbeats 4000000 in
theorem Merge_any (ao : Option Addr) (cap : Nat) (rs : List RowP) (w : World) (hl : rs.length ≤ 100000) (htot : (rowsL rs).flatten.length ≤ 100000000) (hr : ∀ l ∈ rowsL rs, Rise l) (hs : Sl 1 encRow w ao rs) (hrow : ∀ r ∈ rs, Sl 2 encP w r.1 r.2.2) :
    Calls Tryz.prog 78 #[.slice ao rs.length cap] w fun e w' => ∃ v, e = .returned v ∧ Own 2 encP 101 w' w.heap.size v (srt (rowsL rs).flatten) ∧ Below w.heap.size w w' := by
  obtain ⟨ip, hpi, hpz0, hpz1, hpz2⟩ := info_parts infoPr
  obtain ⟨ii, hii, hiz0, hiz1, hiz2⟩ := info_parts infoInt1
  have HR := hide hr
  have HROW := hide hrow
  have HTOT := hide htot
  clear hr hrow htot
  go_enter Tryz.func78, Tryz.ntmps78
  go_wp2_with (refine wpList_make_list encN_len _ _ 43 ii _ (0 : Nat) rs.length rfl rfl Tryz.underlying43 hii hiz0 hiz1 rfl rfl (by rw [hiz2]; decide) rfl rfl (by omega) (Below.refl w.heap.size w) (Nat.le_refl _) ?_; intro w1 ho1 hb1 hb1' hlt1; clear hb1')
  have H1 : MG w w1 rs (List.replicate rs.length 0) [] (.slice none 0 0) := ⟨Own.nil, ho1, by simp, hb1, by
    have : left (List.replicate rs.length 0) (rowsL rs) = rowsL rs := by have := left_zero (rowsL rs); rwa [show (rowsL rs).length = rs.length by simp [rowsL]] at this
    rw [this]; rfl, hlt1⟩
  clear ho1 hb1 hlt1
  go_wp2
  go_loopw [4] (fun v wr => ∃ A out, MG w wr rs A out v) (fun v _ => 100000000 - lenOf v)
  case atStart => exact ⟨_, _, H1⟩
  clear H1
  case round =>
    obtain ⟨A, out, hm⟩ := hrel
    obtain ⟨wo, rfl⟩ : ∃ wo : World, wo = wr := ⟨wr, rfl⟩
    have HM := hide hm
    have hls := hm.lt
    clear hm
    go_wp2
    go_loopw [5, 13] (fun b i wr => ∃ k : Nat, ∃ bb : Int, k ≤ rs.length ∧ i = .int .i64 k ∧ b = .int .i64 bb ∧ Hid (Best (left A (rowsL rs)) k bb) ∧ MG w wr rs A out u4) (fun _ i _ => rs.length - (intOf i).toNat)
    case atStart => exact ⟨0, -1, by omega, rfl, rfl, Best.zero _, HM.out⟩
    case round =>
      obtain ⟨k, bb, hk, rfl, rfl, HB, hm⟩ := hrel
      have hbr := HB.out.range
      by_cases hlt : k < rs.length
      · obtain ⟨b, off, ra, rc, l, a, rfl, hbw, hL, hA, c0, c1, hin⟩ := hm.here hs HROW.out hlt
        have HM2 := hide hm
        have HHS := hide hs
        have HL := hide hL
        have HA := hide hA
        clear hm hL hA hs
        have f1 : (0 : Int) ≤ (k : Int) ∧ (k : Int) < (rs.length : Int) ∧ (0 : Int) ≤ (a : Int) := by omega
        obtain ⟨f1, f2, f3⟩ := f1
        by_cases hal : a < l.length
        · obtain ⟨b2, off2, x, y, rfl, hbw2, hp, d0, d1⟩ := hin hal
          have g1 : decide (a < l.length) = true := by simpa using hal
          have g2 : (a : Int) < (l.length : Int) := by omega
          have HX := hide (left_at HA.out HL.out hp)
          clear hin hp
          by_cases hb0 : bb < 0
          · obtain rfl : bb = -1 := by omega
            have HN := hide (HB.out.first HX.out)
            clear HX HB
            go_wp2
            go_quiet (fail)
            go_wp2
            go_roundw
            case rel => exact ⟨k + 1, k, by omega, by go_num, rfl, HN, HM2.out.drewN _⟩
            case measure => (simp [intOf]; try omega)
          · obtain ⟨m, rfl⟩ : ∃ m : Nat, bb = m := ⟨bb.toNat, by omega⟩
            obtain ⟨b', off', ra2, rc2, l2, a2, e1, _, hL2, hA2, c2, c3, hin2⟩ := HM2.out.here HHS.out HROW.out (k := m) (by omega)
            cases e1
            obtain ⟨xh, th, HH⟩ := HB.out.head
            have hlt2 := left_lt hA2 hL2 HH
            obtain ⟨b3, off3, x2, y2, rfl, _, hp2, d2, d3⟩ := hin2 hlt2
            have HX2 := hide (left_at hA2 hL2 hp2)
            have g3 : (a2 : Int) < (l2.length : Int) ∧ (0 : Int) ≤ (a2 : Int) ∧ (0 : Int) ≤ (m : Int) ∧ (m : Int) < (rs.length : Int) := by omega
            obtain ⟨g3, g4, g5, g6⟩ := g3
            have g7 : decide ((m : Int) < 0) = false := by simp
            have hyes : Hid (klt (x, y) (x2, y2) = true → Best (left A (rowsL rs)) (k + 1) k) := fun h => HB.out.better HX2.out HX.out h
            have hno : Hid (klt (x, y) (x2, y2) = false → Best (left A (rowsL rs)) (k + 1) m) := fun h => HB.out.keep HX2.out HX.out h
            clear hin2 hA2 hL2 hp2 HH HX HX2 HB
            cases hkl : klt (x, y) (x2, y2)
            · have HN := hide (hno.out hkl)
              have g8 : Op.bytesLess x.toList x2.toList = false := hkl
              clear hyes hno hkl
              go_wp2
              go_quiet (fail)
              go_wp2
              go_roundw
              case rel => exact ⟨k + 1, m, by omega, by go_num, rfl, HN, HM2.out.drewN _⟩
              case measure => (simp [intOf]; try omega)
            · have HN := hide (hyes.out hkl)
              have g8 : Op.bytesLess x.toList x2.toList = true := hkl
              clear hyes hno hkl
              go_wp2
              go_quiet (fail)
              go_wp2
              go_roundw
              case rel => exact ⟨k + 1, k, by omega, by go_num, rfl, HN, HM2.out.drewN _⟩
              case measure => (simp [intOf]; try omega)
        · have g1 : decide (a < l.length) = false := by simpa using hal
          have HN := hide (HB.out.skip (left_end HA.out HL.out (by omega)))
          clear hin HB
          go_wp2
          go_quiet (fail)
          go_wp2
          go_roundw
          case rel => exact ⟨k + 1, bb, by omega, by go_num, rfl, HN, HM2.out.drewN _⟩
          case measure => (simp [intOf]; try omega)
      · obtain rfl : k = rs.length := by omega
        have hB : Best (left A (rowsL rs)) (left A (rowsL rs)).length bb := by rw [left_len (by simp [rowsL, hm.la])]; simpa [rowsL] using HB.out
        clear HB HM
        by_cases hb0 : bb < 0
        · obtain rfl : bb = -1 := by omega
          have hn := hB.no
          have hq := hm.eq
          rw [hn] at hq
          have HQ : Hid (out = srt (rowsL rs).flatten) := by show _ = _; rw [← hq]; simp [srt]
          clear hn hq hB
          go_wp2
          go_ret
          exact ⟨_, rfl, by rw [← HQ.out]; exact hm.oo.base_le (by omega), hm.bel⟩
        · obtain ⟨m, rfl⟩ : ∃ m : Nat, bb = m := ⟨bb.toNat, by omega⟩
          obtain ⟨p, t, hp, hsrt⟩ := hB.yes (left_rise HR.out)
          obtain ⟨b, off, ra, rc, l, a, rfl, hbw, hL, hA, c0, c1, hin⟩ := hm.here hs HROW.out (k := m) (by omega)
          have hal := left_lt hA hL hp
          obtain ⟨b2, off2, x, y, rfl, hbw2, hp2, d0, d1⟩ := hin hal
          have hpe : p = (x, y) := by
            have h1 := left_at hA hL hp2
            rw [hp] at h1
            cases h1; rfl
          subst hpe
          have hset := left_set hA hL hp
          have hq := hm.eq
          rw [hsrt] at hq
          have HQ : Hid ((out ++ [(x, y)]) ++ srt (left (A.set m (a + 1)) (rowsL rs)).flatten = srt (rowsL rs).flatten) := by show _ = _; rw [hset, ← hq]; simp
          have hlen : Hid (out.length + 1 ≤ 100000000) := by
            have := congrArg List.length HQ.out
            rw [List.length_append, List.length_append, srt_len, srt_len, List.length_singleton] at this
            have h2 : (rowsL rs).flatten.length ≤ 100000000 := HTOT.out
            show _ ≤ _
            omega
          have hoo := hm.oo
          have hoa := hm.oa
          have hlaA := hide hm.la
          have hbel := hm.bel
          have HA := hide hA
          have f1 : (0 : Int) ≤ (m : Int) ∧ (m : Int) < (rs.length : Int) ∧ (0 : Int) ≤ (a : Int) ∧ (a : Int) < (l.length : Int) := by omega
          obtain ⟨f1, f2, f3, f4⟩ := f1
          have g7 : decide ((m : Int) < 0) = false := by simp
          have hfin : ∀ w1, World.grownBy ((wr.alloc (.cells #[.string x, .int .i64 y] 101)).drew) w1 u4.ownBlock → w1.cell? ⟨b, off + m, none⟩ = some (.slice (some ⟨b2, off2, none⟩) l.length rc) ∧ w1.cell? ⟨w.heap.size, m, none⟩ = some (.int .i64 a) ∧ w1.cell? ⟨b2, off2 + a * 2, none⟩ = some (.string x) ∧ w1.cell? ⟨b2, off2 + a * 2 + 1, none⟩ = some (.int .i64 y) := by
            intro w1 hgr
            have KB := KeptBut.of_grown (S := fun q => u4.ownBlock = some q) hgr (fun q e => e)
            have hb : Below wr.heap.size wr ((wr.alloc (.cells #[.string x, .int .i64 y] 101)).drew) := ((Below.refl _ _).alloc (Nat.le_refl _) _).drew
            exact ⟨KB.cell (cell_later hb c0) (fun e => by have h := (hoo.lt _ e).1; dsimp only at h; omega), KB.cell (cell_later hb c1) (fun e => by have h := (hoo.lt _ e).1; dsimp only at h; omega), KB.cell (cell_later hb d0) (fun e => by have h := (hoo.lt _ e).1; dsimp only at h; omega), KB.cell (cell_later hb d1) (fun e => by have h := (hoo.lt _ e).1; dsimp only at h; omega)⟩
          have HFIN := hide hfin
          have hoo2 : Own 2 encP 101 ((wr.alloc (.cells #[.string x, .int .i64 y] 101)).drew) (w.heap.size + 1) u4 out := (hoo.alloc _).drew
          have hlm := hm.lt
          have hbe2 : Below (w.heap.size + 1) wr ((wr.alloc (.cells #[.string x, .int .i64 y] 101)).drew) := ((Below.refl _ _).alloc (by omega) _).drew
          have hnews : ∀ (j : Nat) (u : Value), (encP (x, y))[j]? = some u → ((wr.alloc (.cells #[.string x, .int .i64 y] 101)).drew).cell? ((⟨wr.heap.size, 0, none⟩ : Addr).add j) = some u := by
            intro j u hj
            have K := (Bk.new (w := wr) (cs := #[.string x, .int .i64 y]) (t := 101) rfl).get (j := j) hj
            rw [add_at _ _ _ _ rfl, Nat.zero_add]
            simpa using K
          have HNW := hide hnews
          have HOO := hide hoo2
          have HBE := hide hbe2
          have HOU := hide hoo.1
          have hla : l.length ≤ 100000000 := by
            have h2 : (rowsL rs).flatten.length ≤ 100000000 := HTOT.out
            rw [(flatten_cut hL []).1, List.length_append, List.length_append] at h2
            omega
          have hlen' : out.length + 1 ≤ 1000000000 := by have h : out.length + 1 ≤ 100000000 := hlen.out; omega
          clear hin hp hp2 hset hq hsrt hB hm hL hA hfin hnews hoo2 hbe2
          go_wp2
          go_region_held3 (fun w' => w'.cell? ⟨b, off + m, none⟩ = some (.slice (some ⟨b2, off2, none⟩) l.length rc) ∧ w'.cell? ⟨w.heap.size, m, none⟩ = some (.int .i64 a) ∧ w'.cell? ⟨b2, off2 + a * 2, none⟩ = some (.string x) ∧ w'.cell? ⟨b2, off2 + a * 2 + 1, none⟩ = some (.int .i64 y))
            (first | go_keep | exact HFIN.out _ hgr)
            ((refine step_append_one encP_len _ _ 53 ip _ rfl rfl Tryz.underlying53 hpi hpz0 hpz1 hpz2 rfl (by decide) (by decide) HOO.out HBE.out (by simp; omega) hlen' rfl (x, y) ⟨wr.heap.size, 0, none⟩ 1 rfl HNW.out (one_pair _) ?_; intro v' w1 hown1 hb1 hgr hat))
          all_goals
            have KB := KeptBut.of_grown (S := fun q => u4.ownBlock = some q) hgr (fun q e => e)
            have hoa1 := KB.own ((hoa.alloc (.cells #[.string x, .int .i64 y] 101)).drew) (fun q e => by have e' : w.heap.size = q := Option.some.inj e; intro e2; have h := (hoo.lt _ e2).1; omega)
            have hbel1 : Below w.heap.size w w1 := hbel.trans (hb1.mono (by omega))
            have hz1 := hoa1.frozenAt m
            have hla1 : (A.set m (a + 1)).length = rs.length := by rw [List.length_set]; exact hlaA.out
            have hsz1 : w.heap.size < w1.heap.size := by have := hb1.size; omega
            have HQ1 := hide hoa1
            have HA1 := hide hown1
            have c1' : w1.cell? ⟨w.heap.size, m, none⟩ = some (.int .i64 a) := And.left (And.right (by assumption))
            clear HFIN HNW HOO HBE hgr hat KB hoa1 hown1 hoo hoa c0 c1 d0 d1 hb1 hlen'
            go_wp2
            go_roundw
            case rel => exact ⟨_, _, HA1.out.setOther (fun e => by have h := (HA1.out.lt _ e).1; dsimp only at h; omega) _, by simpa using Own.set' (j := 0) (y := a + 1) encN_len HQ1.out HA.out (by decide) rfl, hla1, hbel1.setCell (p := ⟨w.heap.size, m, none⟩) (Nat.le_refl _) _, HQ.out, by simpa [World.setCell] using hsz1⟩
            case measure =>
              obtain ⟨a1, c1, e1⟩ := HA1.out.1
              obtain ⟨a2, c2, e2⟩ := HOU.out
              rw [e1, e2]
              have h := hlen.out
              simp [lenOf]
              simp at h
              omega
end Go.Proofs.YtgeedjlbajmdkaaGreatDoor
