/- folder: Load of what was saved. -/
import Derived.Test.YtgeedjlbajmdkaaGreatDoorFolder3
import Derived.Test.YtgeedjlbajmdkaaGreatDoorFolder2
import Derived.Test.YtgeedjlbajmdkaaGreatDoorFolder
set_option linter.unusedSimpArgs false
set_option linter.unusedVariables false
/- folder: a run as a value: New, Step, Out. -/
namespace Go.Proofs.YtgeedjlbajmdkaaGreatDoor
open Go.RowKit

theorem Stand.cap {kind : Int} {L : List Pr} {n d : Nat} (h : Stand kind L n d) : Stand kind L n (min d (groups kind L).length) ∧ (groups kind L).take d = (groups kind L).take (min d (groups kind L).length) := by
  have e : (groups kind L).take d = (groups kind L).take (min d (groups kind L).length) := by
    rcases Nat.le_total d (groups kind L).length with h1 | h1
    · rw [Nat.min_eq_left h1]
    · rw [Nat.min_eq_right h1, List.take_of_length_le h1, List.take_length]
  exact ⟨⟨by rw [h.out, e], h.brk, h.over.trans ⟨fun _ => by omega, fun _ => by omega⟩⟩, e⟩
/-- a run as a value: c keys of it are out; it lies in blocks of S -/
def RunV (w : World) (B : Nat) (kind : Int) (L : List Pr) (c : Nat) (S : Nat → Prop) (v : Value) : Prop :=
  ∃ g n la lc va, v = .pointer (some ⟨g, 0, none⟩) ∧ RunAt w B g kind L n ((groups kind L).take c) la lc va ∧ Stand kind L n c ∧ c ≤ (groups kind L).length ∧ S g ∧ (∀ q, va.ownBlock = some q → S q) ∧ ∀ b o, la = some ⟨b, o, none⟩ → b < w.heap.size
theorem RunV.later {w w' : World} {B : Nat} {kind : Int} {L : List Pr} {c : Nat} {S : Nat → Prop} {v : Value} (h : RunV w B kind L c S v) (hb : Below w.heap.size w w') : RunV w' B kind L c S v := by
  obtain ⟨g, n, la, lc, va, e, h1, h2, h3, h4, h5, h6⟩ := h
  exact ⟨g, n, la, lc, va, e, h1.later hb, h2, h3, h4, h5, fun b o e => Nat.lt_of_lt_of_le (h6 b o e) hb.size⟩
theorem RunV.ptr {w : World} {B : Nat} {kind : Int} {L : List Pr} {c : Nat} {S : Nat → Prop} {v : Value} (h : RunV w B kind L c S v) : ∃ g, v = .pointer (some ⟨g, 0, none⟩) := by
  obtain ⟨g, n, la, lc, va, e, _⟩ := h
  exact ⟨g, e⟩
theorem run_okP {L : List Pr} (h : okP L) (kind : Int) (c : Nat) : okP ((groups kind L).take c) := (h.groups kind).sub (List.take_sublist _ _)
/-- New, as a value -/
theorem New_run (kind : Int) (ao : Option Addr) (cap : Nat) (rs : List RowP) (w : World) (hk : kindFault kind = 0) (hl : rs.length ≤ 100000) (htot : (rowsL rs).flatten.length ≤ 100000000) (hr : ∀ l ∈ rowsL rs, Rise l) (hs : Sl 1 encRow w ao rs) (hrow : ∀ r ∈ rs, Sl 2 encP w r.1 r.2.2) :
    Calls Tryz.prog 32 #[.int .i64 kind, .slice ao rs.length cap] w fun e w' => (∃ g, e = .returned (.tuple #[.pointer (some ⟨g, 0, none⟩), .nilIface]) ∧ RunV w' w.heap.size kind (srt (rowsL rs).flatten) 0 (fun q => w.heap.size ≤ q ∧ q < w'.heap.size) (.pointer (some ⟨g, 0, none⟩))) ∧ Below w.heap.size w w' := by
  refine (New_any kind ao cap rs w hk hl htot hr hs hrow).mono ?_
  rintro e w' ⟨⟨g, la, lc, rfl, h, hla⟩, hb⟩
  refine ⟨⟨g, rfl, g, 0, la, lc, _, rfl, by rw [List.take_zero]; exact h, Stand.zero, Nat.zero_le _, ⟨h.lo, h.bk.lt⟩, fun q e => by simp [Value.ownBlock] at e, fun b o e => (hla b o e).2⟩, hb⟩
theorem Step_run {B : Nat} {kind : Int} {L : List Pr} {c : Nat} {S : Nat → Prop} {v : Value} (many : Int) (w : World) (hB : B ≤ w.heap.size) (h : RunV w B kind L c S v) (hL : L.length ≤ 1000000) (hmany : many ≤ 9223372036854775807) :
    Calls Tryz.prog 33 #[v, .int .i64 many] w fun e w' => (e = .returned (.bool (decide (min (c + many.toNat) (groups kind L).length = (groups kind L).length))) ∧ RunV w' B kind L (min (c + many.toNat) (groups kind L).length) (fun q => S q ∨ w.heap.size ≤ q) v) ∧ KeptBut S w w' := by
  obtain ⟨g, n, la, lc, va, rfl, h1, h2, h3, h4, h5, h6⟩ := h
  refine (Step_any many w hB h1 h2 hL hmany).mono ?_
  rintro e w' ⟨n', va', ⟨rfl, k1, k2, k3⟩, k4⟩
  obtain ⟨k5, k6⟩ := k2.cap
  refine ⟨⟨?_, g, n', la, lc, va', rfl, by rw [← k6]; exact k1, k5, Nat.min_le_right _ _, .inl h4, fun q e => (k3 q e).imp (h5 q) id, fun b o e => Nat.lt_of_lt_of_le (h6 b o e) k4.size⟩, k4.mono fun q hq => hq.elim (fun e => e ▸ h4) (h5 q)⟩
  refine ret_b (decide_eq_decide.2 (Iff.trans ⟨fun h => ?_, fun h => ?_⟩ k5.over.symm)) <;> omega
theorem Out_run {B : Nat} {kind : Int} {L : List Pr} {c : Nat} {S : Nat → Prop} {v : Value} (w : World) (hg : GT w) (h : RunV w B kind L c S v) (hok : okP L) :
    Calls Tryz.prog 36 #[v] w fun e w' => e = .returned (.string (tx (textP ((groups kind L).take c)))) ∧ Below w.heap.size w w' := by
  obtain ⟨g, n, la, lc, va, rfl, h1, h2, h3, h4, h5, h6⟩ := h
  exact Out_any w hg h1 (run_okP hok kind c)
end Go.Proofs.YtgeedjlbajmdkaaGreatDoor
namespace Go.Proofs.YtgeedjlbajmdkaaGreatDoor
open Go.RowKit

theorem groups_lastkey (k : Int) (S : List Pr) (p : Pr) : ∃ v T, groups k (S ++ [p]) = T ++ [(p.1, v)] := by
  rw [groups_snoc]
  rcases list_end (groups k S) with e | ⟨G, q, e⟩
  · rw [e, gstep_nil]; exact ⟨p.2, [], rfl⟩
  · rw [e]
    by_cases h : q.1 = p.1
    · rw [gstep_same h]; exact ⟨two k q.2 p.2, G, by rw [h]⟩
    · rw [gstep_other h]; exact ⟨p.2, G ++ [q], rfl⟩
theorem brk_key {k : Int} {l : List Pr} {n : Nat} {a b : Pr} (h : brk k l (n + 1)) (ha : l[n]? = some a) (hb : l[n + 1]? = some b) : ¬ a.1 = b.1 := by
  obtain ⟨hlt, hx⟩ := List.getElem?_eq_some_iff.1 ha
  obtain ⟨v, T, e⟩ := groups_lastkey k (l.take n) a
  have := h (a.1, v) b (by rw [List.take_succ_eq_append_getElem hlt, hx, e, List.getLast?_concat]) hb
  exact this
theorem load_end {w W : World} {base B g : Nat} {kind : Int} {L : List Pr} {n m : Nat} {O out0 : List Pr} {la : Option Addr} {lc : Nat} {va : Value} {pa : Option Addr} {pc : Nat} (h : RunAt w base g kind L m out0 la lc va) (hb : Below w.heap.size w W) (hbase : base ≤ w.heap.size) (hn : n ≤ L.length) (ho : Own 2 encP 101 W B (.slice pa O.length pc) O) (hB : w.heap.size ≤ B) (hla : ∀ b o, la = some ⟨b, o, none⟩ → b < w.heap.size) :
    RunAt ((W.setCell ⟨g, 2, none⟩ (.int .i64 (n : Int))).setCell ⟨g, 3, none⟩ (.slice pa O.length pc)) base g kind L n O la lc (.slice pa O.length pc) ∧ (∀ q, (Value.slice pa O.length pc).ownBlock = some q → w.heap.size ≤ q) ∧ KeptBut (fun q => q = g) w ((W.setCell ⟨g, 2, none⟩ (.int .i64 (n : Int))).setCell ⟨g, 3, none⟩ (.slice pa O.length pc)) := by
  have hgw := h.bk.lt
  have hlt : ∀ q, (Value.slice pa O.length pc).ownBlock = some q → w.heap.size ≤ q := fun q e => Nat.le_trans hB (ho.lt q e).1
  have hne : (Value.slice pa O.length pc).ownBlock ≠ some g := fun e => by have := hlt g e; omega
  have hbk := h.bk.later hb
  have h2 := hbk.set (k := 2) (u := .int .i64 (m : Int)) (.int .i64 (n : Int)) rfl
  have h3 := h2.set (k := 3) (u := va) (.slice pa O.length pc) rfl
  have hk1 : KeptBut (fun q => q = g) W ((W.setCell ⟨g, 2, none⟩ (.int .i64 (n : Int))).setCell ⟨g, 3, none⟩ (.slice pa O.length pc)) :=
    ((KeptBut.refl (fun q => q = g) W).setCell (p := ⟨g, 2, none⟩) rfl _).setCell (p := ⟨g, 3, none⟩) rfl _
  refine ⟨⟨h3, h.lo, (h.sl.later hb (Nat.le_refl _)).kept hk1 (fun c o e => (h.apart.2 c o e).1), ?_, ⟨hne, fun c o e => ⟨(h.apart.2 c o e).1, fun e2 => ?_⟩⟩, hn⟩, hlt, (KeptBut.of_below hb (Nat.le_refl _)).trans hk1⟩
  · exact ((ho.base_le (Nat.le_trans hbase hB)).setOther hne _).setOther hne _
  · have h4 := hlt c e2
    have h5 := hla c o e
    omega
set_option maxRecDepth 100000 in
set_option maxHeartbeats 4000000 in
theorem Load_any {base g : Nat} {kind : Int} {L : List Pr} {n m c : Nat} {out0 : List Pr} {la : Option Addr} {lc : Nat} {va : Value} (w : World) (hg : GW w) (hbase : base ≤ w.heap.size) (h : RunAt w base g kind L m out0 la lc va) (hst : Stand kind L n c) (hn : n ≤ L.length) (hL : L.length ≤ 1000000) (hok : okP ((groups kind L).take c)) (hs : (saveP n ((groups kind L).take c)).length ≤ 10000000) (hla : ∀ b o, la = some ⟨b, o, none⟩ → b < w.heap.size) :
    Calls Tryz.prog 34 #[.pointer (some ⟨g, 0, none⟩), .string (tx (saveP n ((groups kind L).take c)))] w fun e w' => (e = .returned (.bool true) ∧ ∃ va', RunAt w' base g kind L n ((groups kind L).take c) la lc va' ∧ ∀ q, va'.ownBlock = some q → w.heap.size ≤ q) ∧ KeptBut (fun q => q = g) w w' := by
  have HB9 := hide hst.brk
  generalize (groups kind L).take c = O at *
  have HH := hide h
  have HC := hide (Cut_any (tx (saveP n O)) 10 w hg.gm (by rw [tx_size]; exact hs))
  rw [tx_list, save_cut] at HC
  rw [save_len] at hs
  have HA := hide fun w' (hb : Below w.heap.size w w') => Atoi_text n w' (hg.later hb (Nat.le_refl _)) (by omega)
  have HI := hide fun w' (hb : Below w.heap.size w w') => Itoa_any (n : Int) w' (hg.later hb (Nat.le_refl _)) (by omega) (by omega)
  have HP := hide fun w' (hb : Below w.heap.size w w') => Parse_text O w' (hg.later hb (Nat.le_refl _)) hok (by omega)
  have HBASE := hide hbase
  have HLA := hide hla
  clear hg hst h hok hs hbase hla
  generalize tx (saveP n O) = SV at *
  generalize tx (Lib.itoa (n : Int)) = D at *
  generalize tx (textP O) = TX at *
  have hdd := beqq D
  go_enter Tryz.func34, Tryz.ntmps34
  go_wp2_with fail
  refine HC.out.mono ?_
  rintro e w1 ⟨rfl, b1⟩
  have HB := hide b1
  clear b1 HC
  go_wp2_with fail
  refine (HA.out _ HB.out).mono ?_
  rintro e w2 ⟨rfl, b2⟩
  replace HB := hide (HB.out.trans (b2.mono HB.out.size))
  clear b2 HA
  go_wp2_with fail
  have hbs2 := HB.out.size
  refine (HP.out _ HB.out).mono ?_
  rintro e w3 ⟨⟨pa, pc, rfl, po⟩, b3⟩
  replace HB := hide (HB.out.trans (b3.mono HB.out.size))
  have HPO := hide po
  have HBS : Hid (w.heap.size ≤ w2.heap.size) := hbs2
  clear b3 HP po hbs2
  have c1 := (HH.out.later HB.out).bk.get (j := 1) rfl
  have e1 : decide ((n : Int) < 0) = false := by simp
  have e2 : decide ((L.length : Int) < (n : Int)) = false := by simp; omega
  have e2' : decide (L.length < n) = false := by simp; omega
  go_wp2_with fail
  refine (HI.out _ HB.out).mono ?_
  rintro e w4 ⟨rfl, b4⟩
  replace c1 := cell_later b4 c1
  replace HB := hide (HB.out.trans (b4.mono HB.out.size))
  replace HPO := hide (HPO.out.later b4)
  clear b4 HI
  by_cases hn0 : n = 0
  · have e3 : decide (0 < n) = false := by simp; omega
    have e3' : decide ((0 : Int) < (n : Int)) = false := by simp; omega
    clear hn0
    go_wp2_with fail
    go_quiet (fail)
    have hbd : Below w4.heap.size w4 (w4.drewN nq) := below_drewN (Below.refl _ _) nq
    have hbw4 := HB.out.trans (hbd.mono HB.out.size)
    have HFIN := hide (load_end HH.out hbw4 HBASE.out hn (HPO.out.later hbd) HBS.out HLA.out)
    have hbk := HH.out.bk.later hbw4
    have c2 := hbk.get (j := 2) rfl
    have c3 := hbk.get (j := 3) rfl
    have z2 := hbk.fz 2
    have z3 := hbk.fz 3
    clear hbd hbw4 hbk
    generalize w4.drewN nq = W at *
    go_wp2
    go_ret
    exact ⟨⟨rfl, _, HFIN.out.1, HFIN.out.2.1⟩, HFIN.out.2.2⟩
  have e3 : decide (0 < n) = true := by simp; omega
  have e3' : decide ((0 : Int) < (n : Int)) = true := by simp; omega
  by_cases hn1 : n < L.length
  · have e4 : decide (n < L.length) = true := by simpa using hn1
    have e4' : decide ((n : Int) < (L.length : Int)) = true := by simp; omega
    obtain ⟨k, rfl⟩ : ∃ k, n = k + 1 := ⟨n - 1, by omega⟩
    obtain ⟨b, off, x1, y1, rfl, hbw, hlk, d0, d1⟩ := (HH.out.sl.later HB.out (Nat.le_refl _)).pair (k := k) (by omega)
    obtain ⟨_, _, x2, y2, e9, _, hlk2, d2, d3⟩ := (HH.out.sl.later HB.out (Nat.le_refl _)).pair (k := k + 1) hn1
    cases e9
    have hne := brk_key HB9.out hlk hlk2
    have hkk := bneq hne
    dsimp only at hkk
    have f1 : (0 : Int) ≤ (k : Int) ∧ (k : Int) < (L.length : Int) ∧ (0 : Int) ≤ (k : Int) + 1 ∧ (k : Int) + 1 < (L.length : Int) := by omega
    obtain ⟨f1, f2, f3, f4⟩ := f1
    have f5 : IntKind.i64.wrap ((k : Int) + 1 - 1) = (k : Int) := by rw [show ((k : Int) + 1 - 1) = (k : Int) from by omega]; exact IntWalk.i64_in _ (by omega)
    have f6 : ((k : Int) + 1).toNat = k + 1 := by omega
    clear hlk hlk2 hne
    go_wp2_with fail
    go_quiet (fail)
    clear f5 f6
    have hbd : Below w4.heap.size w4 (w4.drewN nq) := below_drewN (Below.refl _ _) nq
    have hbw4 := HB.out.trans (hbd.mono HB.out.size)
    have HFIN := hide (load_end HH.out hbw4 HBASE.out hn (HPO.out.later hbd) HBS.out HLA.out)
    have hbk := HH.out.bk.later hbw4
    have c2 := hbk.get (j := 2) rfl
    have c3 := hbk.get (j := 3) rfl
    have z2 := hbk.fz 2
    have z3 := hbk.fz 3
    clear hbd hbw4 hbk
    generalize w4.drewN nq = W at *
    go_wp2
    go_ret
    exact ⟨⟨rfl, _, HFIN.out.1, HFIN.out.2.1⟩, HFIN.out.2.2⟩
  · have e4 : decide (n < L.length) = false := by simpa using hn1
    have e4' : decide ((n : Int) < (L.length : Int)) = false := by simp; omega
    go_wp2_with fail
    go_quiet (fail)
    have hbd : Below w4.heap.size w4 (w4.drewN nq) := below_drewN (Below.refl _ _) nq
    have hbw4 := HB.out.trans (hbd.mono HB.out.size)
    have HFIN := hide (load_end HH.out hbw4 HBASE.out hn (HPO.out.later hbd) HBS.out HLA.out)
    have hbk := HH.out.bk.later hbw4
    have c2 := hbk.get (j := 2) rfl
    have c3 := hbk.get (j := 3) rfl
    have z2 := hbk.fz 2
    have z3 := hbk.fz 3
    clear hbd hbw4 hbk
    generalize w4.drewN nq = W at *
    go_wp2
    go_ret
    exact ⟨⟨rfl, _, HFIN.out.1, HFIN.out.2.1⟩, HFIN.out.2.2⟩
theorem Save_run {B : Nat} {kind : Int} {L : List Pr} {c : Nat} {S : Nat → Prop} {v : Value} (w : World) (hg : GW w) (h : RunV w B kind L c S v) (hok : okP L) :
    Calls Tryz.prog 35 #[v] w fun e w' => (∃ n, e = .returned (.string (tx (saveP n ((groups kind L).take c)))) ∧ n ≤ L.length ∧ Stand kind L n c) ∧ Below w.heap.size w w' := by
  obtain ⟨g, n, la, lc, va, rfl, h1, h2, h3, h4, h5, h6⟩ := h
  refine (Save_any w hg h1 (run_okP hok kind c) (by have := h1.at_le; have := hok.1; omega)).mono ?_
  rintro e w' ⟨rfl, hb⟩
  exact ⟨⟨n, rfl, h1.at_le, h2⟩, hb⟩
theorem Load_run {B : Nat} {kind : Int} {L : List Pr} {c n d : Nat} {S : Nat → Prop} {v : Value} (w : World) (hg : GW w) (hB : B ≤ w.heap.size) (h : RunV w B kind L d S v) (hst : Stand kind L n c) (hn : n ≤ L.length) (hc : c ≤ (groups kind L).length) (hok : okP L) (hs : (textP ((groups kind L).take c)).length ≤ 9000000) :
    Calls Tryz.prog 34 #[v, .string (tx (saveP n ((groups kind L).take c)))] w fun e w' => (e = .returned (.bool true) ∧ RunV w' B kind L c (fun q => S q ∨ w.heap.size ≤ q) v) ∧ KeptBut S w w' := by
  obtain ⟨g, m, la, lc, va, rfl, h1, h2, h3, h4, h5, h6⟩ := h
  have hL := hok.1
  have hl : (Lib.itoa (n : Int)).length ≤ 20 := itoa_len (by omega) (by omega)
  refine (Load_any w hg hB h1 hst hn (by omega) (run_okP hok kind c) (by rw [save_len]; omega) h6).mono ?_
  rintro e w' ⟨⟨rfl, va', k1, k2⟩, k3⟩
  exact ⟨⟨rfl, g, n, la, lc, va', rfl, k1, hst, hc, .inl h4, fun q e => .inr (k2 q e), fun b o e => Nat.lt_of_lt_of_le (h6 b o e) k3.size⟩, k3.mono fun q e => e ▸ h4⟩
end Go.Proofs.YtgeedjlbajmdkaaGreatDoor
