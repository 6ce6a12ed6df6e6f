/- The journal: one entry. -/
import Derived.Test.YtkodbldfoldbjaaDoorJour
import Derived.Test.YtkodbldfoldbjaaDoorJour2
import Derived.Handy
set_option linter.unusedSimpArgs false
set_option linter.unusedVariables false
namespace Go.Proofs.YtkodbldfoldbjaaDoor
open Go.RowKit

def enOf (S : List UInt8) : En := match oneE S with
  | some x => x.1
  | none => (⟨#[]⟩, [], [])
def restOf (S : List UInt8) : List UInt8 := match oneE S with
  | some x => x.2
  | none => S
def okE (S : List UInt8) : Bool := (oneE S).isSome
def enV (e : En) (na : Option Addr) (nc : Nat) (ta : Option Addr) (tc : Nat) : Value := .agg #[.string e.1, .slice na e.2.1.length nc, .slice ta e.2.2.length tc]
/-- made since -/
def Fresh (w w' : World) (ao : Option Addr) : Prop := ∀ b off, ao = some ⟨b, off, none⟩ → w.heap.size ≤ b ∧ b < w'.heap.size
theorem Fresh.none {w w' : World} : Fresh w w' none := fun b off e => by cases e
theorem size_set3 (w : World) (p q r : Addr) (u v x : Value) : (((w.setCell p u).setCell q v).setCell r x).heap.size = w.heap.size := by simp [World.setCell]
/-- what One hands back -/
def OnePost (S : List UInt8) (w : World) (e : Ending) (w' : World) : Prop :=
  (∃ na nc ta tc, e = .returned (.tuple #[enV (enOf S) na nc ta tc, .string (tx (restOf S)), .bool (okE S)]) ∧ Sl 1 encInt w' na (enOf S).2.1 ∧ Sl 1 encS w' ta (enOf S).2.2 ∧ Fresh w w' na ∧ Fresh w w' ta) ∧ Below w.heap.size w w'
theorem OnePost.bad {S : List UInt8} {w w' : World} (h : oneE S = none) (hb : Below w.heap.size w w') : OnePost S w (.returned (.tuple #[.agg #[.string ⟨#[]⟩, .slice none 0 0, .slice none 0 0], .string (tx S), .bool false])) w' := by
  unfold OnePost enOf restOf okE
  rw [h]
  exact ⟨⟨none, 0, none, 0, rfl, Sl.nil, Sl.nil, Fresh.none, Fresh.none⟩, hb⟩
theorem OnePost.good {S r : List UInt8} {w w' : World} {k : ByteArray} {N : List Int} {T : List ByteArray} {na ta : Option Addr} {nc tc : Nat} (h : oneE S = some ((k, N, T), r)) (hn : Sl 1 encInt w' na N) (ht : Sl 1 encS w' ta T) (fn : Fresh w w' na) (ft : Fresh w w' ta) (hb : Below w.heap.size w w') :
    OnePost S w (.returned (.tuple #[.agg #[.string k, .slice na N.length nc, .slice ta T.length tc], .string (tx r), .bool true])) w' := by
  unfold OnePost enOf restOf okE
  rw [h]
  exact ⟨⟨na, nc, ta, tc, rfl, hn, ht, fn, ft⟩, hb⟩
theorem oneE_parts {S H R Lf Rt K : List UInt8} {o1 o2 : Bool} (h1 : cutAt 10 S = (H, R, o1)) (h2 : cutAt 59 H = (Lf, Rt, o2)) (h3 : (cutAt 32 Lf).1 = K) :
    oneE S = if o1 = true ∧ o2 = true ∧ K ≠ [] then (numsS (Lf.drop K.length)).bind fun n => (numsS Rt).bind fun z => (takeS z R).bind fun T => (dotS T.2).map fun r => ((tx K, n, T.1), r) else none := by
  unfold oneE
  rw [h1]
  dsimp only
  rw [h2]
  dsimp only
  rw [h3]
theorem Sl.keptBy {α : Type} {sz : Nat} {enc : α → List Value} {S : Nat → Prop} {w w' : World} {ao : Option Addr} {l : List α} (h : Sl sz enc w ao l) (k : KeptBut S w w') (hs : ∀ b off, ao = some ⟨b, off, none⟩ → ¬ S b) : Sl sz enc w' ao l := by
  intro h0
  obtain ⟨b, off, e, hlt, hc⟩ := h h0
  exact ⟨b, off, e, by have := k.size; omega, fun i x j v hi hj => k.cell (hc i x j v hi hj) (hs b off e)⟩
theorem numsL_len : ∀ (ws : List (List UInt8)) (N : List Int), numsL ws = some N → N.length = ws.length
  | [], N, h => by rw [numsL_nil] at h; cases h; rfl
  | w :: ws, N, h => by
    rw [numsL_cons] at h
    obtain ⟨n, _, h⟩ := Option.bind_eq_some_iff.1 h
    obtain ⟨M, hM, rfl⟩ := Option.map_eq_some_iff.1 h
    rw [List.length_cons, List.length_cons, numsL_len ws M hM]
theorem numsV_len (S : List UInt8) : ((numsS S).getD []).length ≤ S.length := by
  rcases S with _ | ⟨c, r⟩
  · exact Nat.le_refl _
  · cases h : numsS (c :: r) with
    | none => exact Nat.zero_le _
    | some N =>
      have h2 : (if c = 32 then numsL (splitAt 32 r) else none) = some N := h
      split at h2
      · have h3 := numsL_len _ _ h2
        have h4 := splitAt_len 32 r
        show N.length ≤ _
        rw [List.length_cons]; omega
      · cases h2
theorem dot_cases (r : List UInt8) : (∃ t, r = 46 :: t) ∨ (dotS r = none ∧ Lib.hasPrefix r [46] = false) := by
  rcases r with _ | ⟨c, t⟩
  · right; exact ⟨rfl, rfl⟩
  · by_cases h : c = 46
    · left; exact ⟨t, by rw [h]⟩
    · right
      constructor
      · unfold dotS
        split
        · rename_i e; cases e; exact absurd rfl h
        · rfl
      · simp [Lib.hasPrefix, List.isPrefixOf]
        exact fun e => h e.symm
theorem dot_yes (t : List UInt8) : dotS (46 :: t) = some t ∧ Lib.hasPrefix (46 :: t) [46] = true ∧ Lib.trimPrefix (46 :: t) [46] = t := by
  have h : Lib.hasPrefix (46 :: t) [46] = true := by simp [Lib.hasPrefix, List.isPrefixOf]
  refine ⟨rfl, h, ?_⟩
  unfold Lib.trimPrefix
  rw [h]
  rfl
theorem takeS_step {Z : List Int} {j : Nat} {z : Int} {r : List UInt8} {acc : List ByteArray} {o : Option (List ByteArray × List UInt8)} (ho : o = (takeS (Z.drop j) r).map fun x => (acc ++ x.1, x.2)) (h : Z[j]? = some z) :
    (z < 0 ∨ (r.length : Int) < z → o = none) ∧ (¬ (z < 0 ∨ (r.length : Int) < z) → o = (takeS (Z.drop (j + 1)) (r.drop z.toNat)).map fun x => ((acc ++ [tx (r.take z.toNat)]) ++ x.1, x.2)) := by
  obtain ⟨hlt, hx⟩ := List.getElem?_eq_some_iff.1 h
  rw [List.drop_eq_getElem_cons hlt, hx, takeS_cons] at ho
  constructor
  · intro h1
    rw [if_pos h1] at ho
    exact ho
  · intro h1
    rw [if_neg h1] at ho
    rw [ho]
    cases takeS (List.drop (j + 1) Z) (List.drop z.toNat r) <;> simp
theorem one_grown {α : Type} {enc : α → List Value} {ty : TypeId} {be : Nat} {x0 x1 va v' : Value} {w5 W w1 : World} {acc : List α} (hbe : be < w5.heap.size) (hbk : Bk W be [x0, x1, va]) (hva : ∀ q, va.ownBlock = some q → w5.heap.size ≤ q) (hk : KeptBut (fun q => q = be) w5 W)
    (ho : Own 1 enc ty w1 w5.heap.size v' acc) (hg : W.grownBy w1 va.ownBlock) :
    Bk (w1.setCell ⟨be, 2, none⟩ v') be [x0, x1, v'] ∧ Own 1 enc ty (w1.setCell ⟨be, 2, none⟩ v') w5.heap.size v' acc ∧ KeptBut (fun q => q = be) w5 (w1.setCell ⟨be, 2, none⟩ v') ∧ w1.frozen? ⟨be, 2, none⟩ = false ∧ w1.cell? ⟨be, 2, none⟩ = some va := by
  have hk1 : KeptBut (fun q => va.ownBlock = some q) W w1 := KeptBut.of_grown hg fun k e => e
  have hb1 := hbk.kept hk1 fun e => by have := hva be e; omega
  refine ⟨hb1.set (k := 2) (u := va) v' rfl, ho.setOther (fun e => by have := (ho.lt be e).1; omega) _, (hk.grown hg hva).setCell rfl _, hb1.fz 2, hb1.get (j := 2) rfl⟩
theorem Bk.set3 {w : World} {b : Nat} {a0 a1 a2 : Value} (v0 v1 v2 : Value) (h : Bk w b [a0, a1, a2]) : Bk (((w.setCell ⟨b, 0, none⟩ v0).setCell ⟨b, 1, none⟩ v1).setCell ⟨b, 2, none⟩ v2) b [v0, v1, v2] :=
  ((h.set (k := 0) (u := a0) v0 rfl).set (k := 1) (u := a1) v1 rfl).set (k := 2) (u := a2) v2 rfl
theorem below_set3 {w W : World} {b B : Nat} (v0 v1 v2 : Value) (h : Below B w W) (hB : B ≤ b) : Below B w (((W.setCell ⟨b, 0, none⟩ v0).setCell ⟨b, 1, none⟩ v1).setCell ⟨b, 2, none⟩ v2) :=
  ((h.setCell (p := ⟨b, 0, none⟩) hB _).setCell (p := ⟨b, 1, none⟩) hB _).setCell (p := ⟨b, 2, none⟩) hB _
set_option maxRecDepth 100000 in
set_option maxHeartbeats 8000000 in
theorem One_any (s : ByteArray) (w : World) (hg : GW w) (hs : s.size ≤ 1000000) :
    Calls Tryd.prog 52 #[.string s] w (OnePost s.data.toList w) := by
  obtain ⟨i0, hi, hz0', hz1', hz2'⟩ := info_parts infoStr
  have hsl := tl_len s
  obtain ⟨S, hS⟩ : ∃ S, s.data.toList = S := ⟨_, rfl⟩
  obtain rfl : s = tx S := by rw [← hS, tx_of]
  rw [tx_list]
  rw [tx_list] at hsl
  clear hS
  obtain ⟨H, R, o1, h1⟩ : ∃ H R o1, cutAt 10 S = (H, R, o1) := ⟨_, _, _, rfl⟩
  obtain ⟨Lf, Rt, o2, h2⟩ : ∃ Lf Rt o2, cutAt 59 H = (Lf, Rt, o2) := ⟨_, _, _, rfl⟩
  obtain ⟨K, K2, o3, h3⟩ : ∃ K K2 o3, cutAt 32 Lf = (K, K2, o3) := ⟨_, _, _, rfl⟩
  have HE := hide (oneE_parts h1 h2 (by rw [h3]))
  have l1 := (cutAt_len 10 S).1
  have l2 := (cutAt_len 59 H).1
  have l3 := (cutAt_len 32 Lf).1
  rw [h1] at l1
  rw [h2] at l2
  rw [h3] at l3
  dsimp only at l1 l2 l3
  have hb1 : Below w.heap.size w (w.alloc (.cells #[.string ⟨#[]⟩, .slice none 0 0, .slice none 0 0] 73)) := (Below.refl _ _).alloc (Nat.le_refl _) _
  have hbk : Bk (w.alloc (.cells #[.string ⟨#[]⟩, .slice none 0 0, .slice none 0 0] 73)) w.heap.size [.string ⟨#[]⟩, .slice none 0 0, .slice none 0 0] := Bk.new rfl
  have HC1 := hide fun w' (hb : Below w.heap.size w w') => Cut_any (tx S) 10 w' (hg.gm.later hb (Nat.le_refl _)) (by omega)
  have HC2 := hide fun w' (hb : Below w.heap.size w w') => Cut_any (tx H) 59 w' (hg.gm.later hb (Nat.le_refl _)) (by rw [tx_size]; omega)
  have HC3 := hide fun w' (hb : Below w.heap.size w w') => Cut_any (tx Lf) 32 w' (hg.gm.later hb (Nat.le_refl _)) (by rw [tx_size]; omega)
  have HN1 := hide fun w' (hb : Below w.heap.size w w') => numbers_any (tx (Lf.drop K.length)) w' (hg.later hb (Nat.le_refl _)) (by rw [tx_size, List.length_drop]; omega)
  have HN2 := hide fun w' (hb : Below w.heap.size w w') => numbers_any (tx Rt) w' (hg.later hb (Nat.le_refl _)) (by rw [tx_size]; omega)
  simp only [tx_list, h1, h2, h3] at HC1 HC2 HC3
  unfold NumsPost numsV at HN1 HN2
  simp only [tx_list] at HN1 HN2
  have HZQ : Hid (((numsS Rt).getD []).length ≤ 1000000) := by have := numsV_len Rt; show _ ≤ _; omega
  generalize hq1 : numsS (Lf.drop K.length) = q1 at *
  generalize hq2 : numsS Rt = q2 at *
  have hext : (tx Lf).extract K.length (tx Lf).size = tx (Lf.drop K.length) := tx_extD Lf K.length
  have HKS : Hid (K.length ≤ 1000000) := by show _ ≤ _; omega
  have hks : (tx K).size = K.length := tx_size K
  have hkl : (K.length : Int) ≤ ((tx Lf).size : Int) := by rw [tx_size]; omega
  have HRL : Hid (R.length ≤ 1000000) := by show _ ≤ _; omega
  have HB := hide hb1
  have HBK := hide hbk
  clear hsl h1 h2 h3 l1 l2 l3 hg hs hb1 hbk hq1 hq2
  go_enter Tryd.func52, Tryd.ntmps52
  go_wp2_with fail
  generalize w.alloc (.cells #[.string ⟨#[]⟩, .slice none 0 0, .slice none 0 0] 73) = W at *
  refine (HC1.out _ HB.out).mono ?_
  rintro e w1 ⟨rfl, b1⟩
  replace HB := hide (HB.out.trans (b1.mono HB.out.size))
  replace HBK := hide (HBK.out.later b1)
  clear b1 HC1
  go_wp2_with fail
  refine (HC2.out _ HB.out).mono ?_
  rintro e w2 ⟨rfl, b2⟩
  replace HB := hide (HB.out.trans (b2.mono HB.out.size))
  replace HBK := hide (HBK.out.later b2)
  clear b2 HC2
  go_wp2_with fail
  refine (HC3.out _ HB.out).mono ?_
  rintro e w3 ⟨rfl, b3⟩
  replace HB := hide (HB.out.trans (b3.mono HB.out.size))
  replace HBK := hide (HBK.out.later b3)
  clear b3 HC3
  go_wp2_with fail
  refine (HN1.out _ HB.out).mono ?_
  rintro e w4 ⟨⟨na, nc, rfl, on⟩, b4⟩
  have HBW4 : Hid (w.heap.size < w3.heap.size) := HBK.out.lt
  have HON := hide on
  replace HB := hide (HB.out.trans (b4.mono HB.out.size))
  replace HBK := hide (HBK.out.later b4)
  clear b4 HN1 on
  go_wp2_with fail
  refine (HN2.out _ HB.out).mono ?_
  rintro e w5 ⟨⟨za, zc, rfl, oz⟩, b5⟩
  have HOZ := hide oz
  replace HB := hide (HB.out.trans (b5.mono HB.out.size))
  replace HBK := hide (HBK.out.later b5)
  replace HON := hide (HON.out.later b5)
  clear b5 HN2 oz hext hkl
  cases o1
  · have HT : Hid (oneE S = none) := by show _ = _; rw [HE.out, if_neg (by simp)]
    have hbk9 := HBK.out
    have c0 := hbk9.get (j := 0) rfl
    have c1 := hbk9.get (j := 1) rfl
    have c2 := hbk9.get (j := 2) rfl
    have z0 := hbk9.fz 0
    have z1 := hbk9.fz 1
    have z2 := hbk9.fz 2
    have hk9 := hbk9.set3 (.string ⟨#[]⟩) (.slice none 0 0) (.slice none 0 0)
    have f0 := hk9.get (j := 0) rfl
    have f1 := hk9.get (j := 1) rfl
    have f2 := hk9.get (j := 2) rfl
    have y0 := hk9.fz 0
    have y1 := hk9.fz 1
    have y2 := hk9.fz 2
    have HB9 := hide (below_set3 (.string ⟨#[]⟩) (.slice none 0 0) (.slice none 0 0) HB.out (Nat.le_refl w.heap.size))
    clear hbk9 hk9
    go_wp2
    exact bodyPost_ret (v := .tuple #[.agg #[.string ⟨#[]⟩, .slice none 0 0, .slice none 0 0], .string (tx S), .bool false]) (by simp [results, Tryd.results52, go_sem, f0, f1, f2, y0, y1, y2]) rfl (OnePost.bad HT.out HB9.out)
  cases o2
  · have HT : Hid (oneE S = none) := by show _ = _; rw [HE.out, if_neg (by simp)]
    have hbk9 := HBK.out
    have c0 := hbk9.get (j := 0) rfl
    have c1 := hbk9.get (j := 1) rfl
    have c2 := hbk9.get (j := 2) rfl
    have z0 := hbk9.fz 0
    have z1 := hbk9.fz 1
    have z2 := hbk9.fz 2
    have hk9 := hbk9.set3 (.string ⟨#[]⟩) (.slice none 0 0) (.slice none 0 0)
    have f0 := hk9.get (j := 0) rfl
    have f1 := hk9.get (j := 1) rfl
    have f2 := hk9.get (j := 2) rfl
    have y0 := hk9.fz 0
    have y1 := hk9.fz 1
    have y2 := hk9.fz 2
    have HB9 := hide (below_set3 (.string ⟨#[]⟩) (.slice none 0 0) (.slice none 0 0) HB.out (Nat.le_refl w.heap.size))
    clear hbk9 hk9
    go_wp2
    exact bodyPost_ret (v := .tuple #[.agg #[.string ⟨#[]⟩, .slice none 0 0, .slice none 0 0], .string (tx S), .bool false]) (by simp [results, Tryd.results52, go_sem, f0, f1, f2, y0, y1, y2]) rfl (OnePost.bad HT.out HB9.out)
  cases q1
  · have HT : Hid (oneE S = none) := by show _ = _; rw [HE.out]; split <;> rfl
    cases q2
    all_goals
      dsimp only [Option.isSome, Option.getD]
      have hbk9 := HBK.out
      have c0 := hbk9.get (j := 0) rfl
      have c1 := hbk9.get (j := 1) rfl
      have c2 := hbk9.get (j := 2) rfl
      have z0 := hbk9.fz 0
      have z1 := hbk9.fz 1
      have z2 := hbk9.fz 2
      have hk9 := hbk9.set3 (.string ⟨#[]⟩) (.slice none 0 0) (.slice none 0 0)
      have f0 := hk9.get (j := 0) rfl
      have f1 := hk9.get (j := 1) rfl
      have f2 := hk9.get (j := 2) rfl
      have y0 := hk9.fz 0
      have y1 := hk9.fz 1
      have y2 := hk9.fz 2
      have HB9 := hide (below_set3 (.string ⟨#[]⟩) (.slice none 0 0) (.slice none 0 0) HB.out (Nat.le_refl w.heap.size))
      clear hbk9 hk9
      go_wp2
      exact bodyPost_ret (v := .tuple #[.agg #[.string ⟨#[]⟩, .slice none 0 0, .slice none 0 0], .string (tx S), .bool false]) (by simp [results, Tryd.results52, go_sem, f0, f1, f2, y0, y1, y2]) rfl (OnePost.bad HT.out HB9.out)
  rename_i N
  cases q2
  · have HT : Hid (oneE S = none) := by show _ = _; rw [HE.out]; split <;> rfl
    dsimp only [Option.isSome, Option.getD]
    have hbk9 := HBK.out
    have c0 := hbk9.get (j := 0) rfl
    have c1 := hbk9.get (j := 1) rfl
    have c2 := hbk9.get (j := 2) rfl
    have z0 := hbk9.fz 0
    have z1 := hbk9.fz 1
    have z2 := hbk9.fz 2
    have hk9 := hbk9.set3 (.string ⟨#[]⟩) (.slice none 0 0) (.slice none 0 0)
    have f0 := hk9.get (j := 0) rfl
    have f1 := hk9.get (j := 1) rfl
    have f2 := hk9.get (j := 2) rfl
    have y0 := hk9.fz 0
    have y1 := hk9.fz 1
    have y2 := hk9.fz 2
    have HB9 := hide (below_set3 (.string ⟨#[]⟩) (.slice none 0 0) (.slice none 0 0) HB.out (Nat.le_refl w.heap.size))
    clear hbk9 hk9
    go_wp2
    exact bodyPost_ret (v := .tuple #[.agg #[.string ⟨#[]⟩, .slice none 0 0, .slice none 0 0], .string (tx S), .bool false]) (by simp [results, Tryd.results52, go_sem, f0, f1, f2, y0, y1, y2]) rfl (OnePost.bad HT.out HB9.out)
  rename_i Z
  dsimp only [Option.isSome, Option.getD] at HON HOZ HZQ ⊢
  rcases K with _ | ⟨kc, kr⟩
  · have HT : Hid (oneE S = none) := by show _ = _; rw [HE.out, if_neg (by simp)]
    have e1 : (tx ([] : List UInt8)).toList.isEmpty = true := by rw [tl]; rfl
    have e2 : (tx ([] : List UInt8)).toList = [] := by rw [tl]; rfl
    have hbk9 := HBK.out
    have c0 := hbk9.get (j := 0) rfl
    have c1 := hbk9.get (j := 1) rfl
    have c2 := hbk9.get (j := 2) rfl
    have z0 := hbk9.fz 0
    have z1 := hbk9.fz 1
    have z2 := hbk9.fz 2
    have hk9 := hbk9.set3 (.string ⟨#[]⟩) (.slice none 0 0) (.slice none 0 0)
    have f0 := hk9.get (j := 0) rfl
    have f1 := hk9.get (j := 1) rfl
    have f2 := hk9.get (j := 2) rfl
    have y0 := hk9.fz 0
    have y1 := hk9.fz 1
    have y2 := hk9.fz 2
    have HB9 := hide (below_set3 (.string ⟨#[]⟩) (.slice none 0 0) (.slice none 0 0) HB.out (Nat.le_refl w.heap.size))
    clear hbk9 hk9
    go_wp2
    exact bodyPost_ret (v := .tuple #[.agg #[.string ⟨#[]⟩, .slice none 0 0, .slice none 0 0], .string (tx S), .bool false]) (by simp [results, Tryd.results52, go_sem, f0, f1, f2, y0, y1, y2]) rfl (OnePost.bad HT.out HB9.out)
  have e1 : (tx (kc :: kr)).toList.isEmpty = false := by rw [tl, tx_list]; rfl
  replace HE : Hid (oneE S = (takeS Z R).bind fun T => (dotS T.2).map fun r => ((tx (kc :: kr), N, T.1), r)) := by
    show _ = _
    rw [HE.out, if_pos ⟨rfl, rfl, by simp⟩]
    rfl
  generalize kc :: kr = K at *
  go_wp2_with fail
  have hb6 : Below w5.heap.size w5 (w5.alloc (Obj.cells #[.string (tx K), .slice na N.length nc, .slice none 0 0] 73)) := (Below.refl _ _).alloc (Nat.le_refl _) _
  have hbe : Bk (w5.alloc (Obj.cells #[.string (tx K), .slice na N.length nc, .slice none 0 0] 73)) w5.heap.size [.string (tx K), .slice na N.length nc, .slice none 0 0] := Bk.new rfl
  have HBE := hide hbe
  have HSN := hide ((HON.out.sl encInt_len).later hb6 (Nat.le_refl _))
  have HSZ := hide ((HOZ.out.sl encInt_len).later hb6 (Nat.le_refl _))
  have HNA : Hid (∀ b off, na = some ⟨b, off, none⟩ → w.heap.size < b) := fun b off e => Nat.lt_of_lt_of_le HBW4.out (HON.out.lt b (by subst e; rfl)).1
  have HNL : Hid (∀ b off, na = some ⟨b, off, none⟩ → b < w5.heap.size) := fun b off e => (HON.out.lt b (by subst e; rfl)).2
  have HZL : Hid (∀ b off, za = some ⟨b, off, none⟩ → b < w5.heap.size) := fun b off e => (HOZ.out.lt b (by subst e; rfl)).2
  have HW5 := hide HB.out.size
  have HBL := HBK.out.lt
  replace HB := hide (HB.out.trans (hb6.mono HB.out.size))
  replace HBK := hide (HBK.out.later hb6)
  have HBG : Hid (w.heap.size < w5.heap.size) := HBL
  have HLE := hide hbe.lt
  generalize hw6 : w5.alloc (Obj.cells #[.string (tx K), .slice na N.length nc, .slice none 0 0] 73) = w6 at *
  generalize w5.heap.size = be at *
  clear hb6 hbe hw6 HBL HON HOZ
  have hZL := HZQ.out
  go_loopw [6, 77] (fun rv iv wr => ∃ (j : Nat) (r : List UInt8) (acc : List ByteArray) (va : Value), j ≤ Z.length ∧ iv = .int .i64 j ∧ rv = .string (tx r) ∧ r.length ≤ 1000000 ∧ acc.length ≤ j ∧ Hid (takeS Z R = (takeS (Z.drop j) r).map fun x => (acc ++ x.1, x.2)) ∧ Hid (Own 1 encS 9 wr w6.heap.size va acc) ∧ Hid (Bk wr be [.string (tx K), .slice na N.length nc, va]) ∧ Hid (KeptBut (fun q => q = be) w6 wr)) (fun _ iv _ => Z.length - (intOf iv).toNat)
  case atStart => exact ⟨0, R, [], _, by omega, rfl, rfl, HRL.out, by simp, (by show _ = _; rw [List.drop_zero]; cases takeS Z R <;> simp), Own.nil, HBE, KeptBut.refl _ _⟩
  case round =>
    obtain ⟨j, r, acc, va, hj, rfl, rfl, hr, hacc, HA, HOW, HBE2, HKP⟩ := hrel
    have HBq := hide (HB.out.trans (HKP.out.below (B := w.heap.size) (fun q e => by have := HBG.out; have e' : q = be := e; omega) HB.out.size))
    have HBKq := hide (HBK.out.kept HKP.out (fun e => by have := HBG.out; have e' : w.heap.size = be := e; omega))
    obtain ⟨oa, oc, hva⟩ := id HOW.out.1
    subst hva
    by_cases hlt : j < Z.length
    · obtain ⟨zb, zoff, z, rfl, hzw, hzk, d0⟩ := (HSZ.out.keptBy HKP.out (fun b off e h => by have := HZL.out b off e; have e' : b = be := h; omega)).int hlt
      have HSTEP := hide (takeS_step HA.out hzk)
      have f1 : (0 : Int) ≤ (j : Int) ∧ (j : Int) < (Z.length : Int) := by omega
      obtain ⟨f1, f2⟩ := f1
      clear hzk HA
      by_cases hz0 : z < 0
      · have g1 : decide (z < 0) = true := by simpa using hz0
        have HT : Hid (oneE S = none) := by show _ = _; rw [HE.out, HSTEP.out.1 (.inl hz0)]; rfl
        clear HSTEP
        clear HB HBK
        have HB := HBq
        have HBK := HBKq
        have hbk9 := HBK.out
        have c0 := hbk9.get (j := 0) rfl
        have c1 := hbk9.get (j := 1) rfl
        have c2 := hbk9.get (j := 2) rfl
        have z0 := hbk9.fz 0
        have z1 := hbk9.fz 1
        have z2 := hbk9.fz 2
        have hk9 := hbk9.set3 (.string ⟨#[]⟩) (.slice none 0 0) (.slice none 0 0)
        have f0 := hk9.get (j := 0) rfl
        have f1 := hk9.get (j := 1) rfl
        have f2 := hk9.get (j := 2) rfl
        have y0 := hk9.fz 0
        have y1 := hk9.fz 1
        have y2 := hk9.fz 2
        have HB9 := hide (below_set3 (.string ⟨#[]⟩) (.slice none 0 0) (.slice none 0 0) HB.out (Nat.le_refl w.heap.size))
        clear hbk9 hk9
        go_wp2
        exact bodyPost_ret (v := .tuple #[.agg #[.string ⟨#[]⟩, .slice none 0 0, .slice none 0 0], .string (tx S), .bool false]) (by simp [results, Tryd.results52, go_sem, f0, f1, f2, y0, y1, y2]) rfl (OnePost.bad HT.out HB9.out)
      have g1 : decide (z < 0) = false := by simpa using hz0
      obtain ⟨n, rfl⟩ : ∃ n : Nat, z = (n : Int) := ⟨z.toNat, by omega⟩
      by_cases hz1 : r.length < n
      · have g2 : decide ((tx r).size < n) = true := by rw [tx_size]; simpa using hz1
        have g3 : decide (((tx r).size : Int) < (n : Int)) = true := by rw [tx_size]; simp; omega
        have HT : Hid (oneE S = none) := by show _ = _; rw [HE.out, HSTEP.out.1 (.inr (by omega))]; rfl
        clear HSTEP
        clear HB HBK
        have HB := HBq
        have HBK := HBKq
        have hbk9 := HBK.out
        have c0 := hbk9.get (j := 0) rfl
        have c1 := hbk9.get (j := 1) rfl
        have c2 := hbk9.get (j := 2) rfl
        have z0 := hbk9.fz 0
        have z1 := hbk9.fz 1
        have z2 := hbk9.fz 2
        have hk9 := hbk9.set3 (.string ⟨#[]⟩) (.slice none 0 0) (.slice none 0 0)
        have f0 := hk9.get (j := 0) rfl
        have f1 := hk9.get (j := 1) rfl
        have f2 := hk9.get (j := 2) rfl
        have y0 := hk9.fz 0
        have y1 := hk9.fz 1
        have y2 := hk9.fz 2
        have HB9 := hide (below_set3 (.string ⟨#[]⟩) (.slice none 0 0) (.slice none 0 0) HB.out (Nat.le_refl w.heap.size))
        clear hbk9 hk9
        go_wp2
        exact bodyPost_ret (v := .tuple #[.agg #[.string ⟨#[]⟩, .slice none 0 0, .slice none 0 0], .string (tx S), .bool false]) (by simp [results, Tryd.results52, go_sem, f0, f1, f2, y0, y1, y2]) rfl (OnePost.bad HT.out HB9.out)
      have g2 : decide ((tx r).size < n) = false := by rw [tx_size]; simpa using hz1
      have g3 : decide (((tx r).size : Int) < (n : Int)) = false := by rw [tx_size]; simp; omega
      have HT := hide (HSTEP.out.2 (by omega))
      rw [Int.toNat_natCast] at HT
      clear HSTEP HBKq HBq
      have hx1 : (tx r).extract 0 n = tx (r.take n) := tx_extT r n
      have hx2 : (tx r).extract n (tx r).size = tx (r.drop n) := tx_extD r n
      have hx3 : (n : Int) ≤ ((tx r).size : Int) := by rw [tx_size]; omega
      have hx4 : n ≤ (tx r).size := by rw [tx_size]; omega
      have HRD : Hid ((r.drop n).length ≤ 1000000) := by show _ ≤ _; rw [List.length_drop]; omega
      have c2 := HBE2.out.get (j := 2) rfl
      go_upto_region 14 with (fail)
      have hbd2 : Below wr.heap.size wr (wr.alloc (Obj.cells #[.string (tx (r.take n))] 9)).drew := ((Below.refl _ _).alloc (Nat.le_refl _) _).drew
      have HNW : Hid (∀ (j : Nat) (u : Value), (encS (tx (r.take n)))[j]? = some u → (wr.alloc (Obj.cells #[.string (tx (r.take n))] 9)).drew.cell? ((⟨wr.heap.size, 0, none⟩ : Addr).add j) = some u) := by
        intro j u hj
        have hWn : Bk (wr.alloc (Obj.cells #[.string (tx (r.take n))] 9)).drew wr.heap.size [.string (tx (r.take n))] := (Bk.new rfl).later (Below.refl _ _).drew
        have h2 := hWn.get (j := j) hj
        have h3 : (⟨wr.heap.size, 0, none⟩ : Addr).add j = ⟨wr.heap.size, j, none⟩ := by
          rcases j with _ | j <;> simp [Addr.add]
        rw [h3]; exact h2
      have HFIN := hide fun v' w1 ho hg => one_grown (enc := encS) (ty := 9) (v' := v') (w1 := w1) (acc := acc ++ [tx (r.take n)]) HLE.out (HBE2.out.later hbd2) (fun q e => (HOW.out.lt q e).1) (HKP.out.trans (KeptBut.of_below hbd2 (Nat.le_refl _))) ho hg
      have HOW9 := hide (HOW.out.later hbd2)
      have HONE := hide (show ∀ u ∈ encS (tx (r.take n)), u.oneCell' = true from one_str _)
      have HLEN := hide (show acc.length + 1 ≤ 1000000000 by omega)
      have a2 := cell_later (((Below.refl wr.heap.size wr).alloc (Nat.le_refl _) (Obj.cells #[.string (tx (r.take n))] 9))) c2
      have HB9 : Hid (w6.heap.size ≤ (wr.alloc (Obj.cells #[.string (tx (r.take n))] 9)).drew.heap.size) := by
        have h1 := HKP.out.size
        have h2 := hbd2.size
        show _ ≤ _
        omega
      clear hbd2 HBE2 HOW HKP
      go_region_law (refine step_append_one (enc := encS) encS_len _ _ 33 i0 _ rfl rfl Tryd.underlying33 hi hz0' hz1' hz2' rfl (by decide) (by decide) HOW9.out (Below.refl _ _) HB9.out HLEN.out rfl (tx (r.take n)) ⟨wr.heap.size, 0, none⟩ 1 rfl HNW.out HONE.out ?_; intro v' w1 hown1 hb1 hgr hat; obtain ⟨hq1, hq2, hq3, z2, c2⟩ := HFIN.out v' w1 hown1 hgr; obtain ⟨ao', cap', rfl⟩ := id hown1.1; rw [show (acc ++ [tx (r.take n)]).length = acc.length + 1 by simp] at hq1 hq2 hq3; have HQ1 := hide hq1; have HQ2 := hide hq2; have HQ3 := hide hq3; clear hown1 hb1 hgr hat hq1 hq2 hq3)
      all_goals
        go_wp2
        go_roundw
        case rel => exact ⟨j + 1, r.drop n, acc ++ [tx (r.take n)], .slice ao' (acc.length + 1) cap', by omega, by go_num, rfl, HRD.out, by simp; omega, HT, HQ2, HQ1, HQ3⟩
        case measure => (simp [intOf]; try omega)
    · obtain rfl : j = Z.length := by omega
      have f3 : decide (Z.length < Z.length) = false := by simp
      have HT : Hid (oneE S = (dotS r).map fun t => ((tx K, N, acc), t)) := by
        show _ = _
        rw [HE.out, HA.out, List.drop_length, takeS_nil]
        simp
      have c0' := HBE2.out.get (j := 0) rfl
      have c1' := HBE2.out.get (j := 1) rfl
      have c2' := HBE2.out.get (j := 2) rfl
      have HCP := hide (Tryd.strings_CutPrefix (tx r) ⟨#[46]⟩ wr)
      rw [tx_list] at HCP
      have HSNq := hide (HSN.out.keptBy HKP.out (fun b off e h => by have := HNL.out b off e; have e' : b = be := h; omega))
      clear HA HB HBK
      have HB := HBq
      have HBK := HBKq
      rcases dot_cases r with ⟨t, rfl⟩ | ⟨hd1, hd2⟩
      · obtain ⟨hd1, hd2, hd3⟩ := dot_yes t
        replace HT : Hid (oneE S = some ((tx K, N, acc), t)) := by show _ = _; rw [HT.out, hd1]; rfl
        rw [show (⟨#[46]⟩ : ByteArray).data.toList = [46] from rfl, hd2, hd3, show (⟨t.toArray⟩ : ByteArray) = tx t from rfl] at HCP
        clear hd1 hd2 hd3
        go_wp2_with fail
        refine HCP.out.mono ?_
        rintro e w7 ⟨rfl, rfl⟩
        clear HCP
        have hbk9 := HBK.out
        have c0 := hbk9.get (j := 0) rfl
        have c1 := hbk9.get (j := 1) rfl
        have c2 := hbk9.get (j := 2) rfl
        have z0 := hbk9.fz 0
        have z1 := hbk9.fz 1
        have z2 := hbk9.fz 2
        have hk9 := hbk9.set3 (.string (tx K)) (.slice na N.length nc) (.slice oa acc.length oc)
        have f0 := hk9.get (j := 0) rfl
        have f1 := hk9.get (j := 1) rfl
        have f2 := hk9.get (j := 2) rfl
        have y0 := hk9.fz 0
        have y1 := hk9.fz 1
        have y2 := hk9.fz 2
        have HB9 := hide (below_set3 (.string (tx K)) (.slice na N.length nc) (.slice oa acc.length oc) HB.out (Nat.le_refl w.heap.size))
        have hkq : KeptBut (fun q => q = w.heap.size) w7 (((w7.setCell ⟨w.heap.size, 0, none⟩ (.string (tx K))).setCell ⟨w.heap.size, 1, none⟩ (.slice na N.length nc)).setCell ⟨w.heap.size, 2, none⟩ (.slice oa acc.length oc)) :=
          (((KeptBut.refl (fun q => q = w.heap.size) w7).setCell (p := ⟨w.heap.size, 0, none⟩) rfl _).setCell (p := ⟨w.heap.size, 1, none⟩) rfl _).setCell (p := ⟨w.heap.size, 2, none⟩) rfl _
        have HS1 := hide (HSNq.out.keptBy hkq (fun b off e h => by have h1 := HNA.out b off e; have e' : b = w.heap.size := h; omega))
        have HS2 := hide ((HOW.out.sl encS_len).keptBy hkq (fun b off e h => by have h1 := (HOW.out.lt b (by subst e; rfl)).1; have h2 := HLE.out; have h3 := HBG.out; have e' : b = w.heap.size := h; omega))
        have HF1 : Hid (Fresh w (((w7.setCell ⟨w.heap.size, 0, none⟩ (.string (tx K))).setCell ⟨w.heap.size, 1, none⟩ (.slice na N.length nc)).setCell ⟨w.heap.size, 2, none⟩ (.slice oa acc.length oc)) na) := fun b off e => by
          have h1 := HNA.out b off e
          have h2 := HNL.out b off e
          have h3 := HLE.out
          have h4 := HKP.out.size
          rw [size_set3]
          exact ⟨by omega, by omega⟩
        have HF2 : Hid (Fresh w (((w7.setCell ⟨w.heap.size, 0, none⟩ (.string (tx K))).setCell ⟨w.heap.size, 1, none⟩ (.slice na N.length nc)).setCell ⟨w.heap.size, 2, none⟩ (.slice oa acc.length oc)) oa) := fun b off e => by
          have h1 := HOW.out.lt b (by subst e; rfl)
          have h2 := HLE.out
          have h3 := HBG.out
          rw [size_set3]
          exact ⟨by omega, by omega⟩
        clear hbk9 hk9 hkq
        go_wp2
        exact bodyPost_ret (v := .tuple #[.agg #[.string (tx K), .slice na N.length nc, .slice oa acc.length oc], .string (tx t), .bool true]) (by simp [results, Tryd.results52, go_sem, f0, f1, f2, y0, y1, y2]) rfl (OnePost.good HT.out HS1.out HS2.out HF1.out HF2.out HB9.out)
      · replace HT : Hid (oneE S = none) := by show _ = _; rw [HT.out, hd1]; rfl
        rw [show (⟨#[46]⟩ : ByteArray).data.toList = [46] from rfl, hd2] at HCP
        clear hd1 hd2
        go_wp2_with fail
        refine HCP.out.mono ?_
        rintro e w7 ⟨rfl, rfl⟩
        clear HCP
        have hbk9 := HBK.out
        have c0 := hbk9.get (j := 0) rfl
        have c1 := hbk9.get (j := 1) rfl
        have c2 := hbk9.get (j := 2) rfl
        have z0 := hbk9.fz 0
        have z1 := hbk9.fz 1
        have z2 := hbk9.fz 2
        have hk9 := hbk9.set3 (.string ⟨#[]⟩) (.slice none 0 0) (.slice none 0 0)
        have f0 := hk9.get (j := 0) rfl
        have f1 := hk9.get (j := 1) rfl
        have f2 := hk9.get (j := 2) rfl
        have y0 := hk9.fz 0
        have y1 := hk9.fz 1
        have y2 := hk9.fz 2
        have HB9 := hide (below_set3 (.string ⟨#[]⟩) (.slice none 0 0) (.slice none 0 0) HB.out (Nat.le_refl w.heap.size))
        clear hbk9 hk9
        go_wp2
        exact bodyPost_ret (v := .tuple #[.agg #[.string ⟨#[]⟩, .slice none 0 0, .slice none 0 0], .string (tx S), .bool false]) (by simp [results, Tryd.results52, go_sem, f0, f1, f2, y0, y1, y2]) rfl (OnePost.bad HT.out HB9.out)
end Go.Proofs.YtkodbldfoldbjaaDoor
