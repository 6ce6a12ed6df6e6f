/- Pairs: a text as pairs: the program's reading, the document's. -/
import Derived.Test.YtgeedjlbajmdkaaGreatDoorPair4
set_option linter.unusedSimpArgs false
set_option linter.unusedVariables false
namespace Go.Proofs.YtgeedjlbajmdkaaGreatDoor
open Go.RowKit

/-- what one step of the readers comes to -/
inductive StepP (r : List UInt8) : Prop where
  | head (h : ((cutAt 58 r).2.2 && numOk (cutAt 58 r).1) = false) (e : oneP r = none)
  | neg (h : ((cutAt 58 r).2.2 && numOk (cutAt 58 r).1) = true) (hn : atoiV (cutAt 58 r).1 < 0) (e : oneP r = none)
  | long (h : ((cutAt 58 r).2.2 && numOk (cutAt 58 r).1) = true) (n : Nat) (hn : atoiV (cutAt 58 r).1 = n) (hl : (cutAt 58 r).2.1.length ≤ n) (e : oneP r = none)
  | blank (h : ((cutAt 58 r).2.2 && numOk (cutAt 58 r).1) = true) (n : Nat) (hn : atoiV (cutAt 58 r).1 = n) (hl : n < (cutAt 58 r).2.1.length) (c : UInt8) (hc : (cutAt 58 r).2.1[n]? = some c) (h32 : c ≠ 32) (e : oneP r = none)
  | val (h : ((cutAt 58 r).2.2 && numOk (cutAt 58 r).1) = true) (n : Nat) (hn : atoiV (cutAt 58 r).1 = n) (hl : n < (cutAt 58 r).2.1.length) (hc : (cutAt 58 r).2.1[n]? = some 32)
      (h2 : ((cutAt 10 ((cutAt 58 r).2.1.drop (n + 1))).2.2 && numOk (cutAt 10 ((cutAt 58 r).2.1.drop (n + 1))).1) = false) (e : oneP r = none)
  | ok (h : ((cutAt 58 r).2.2 && numOk (cutAt 58 r).1) = true) (n : Nat) (hn : atoiV (cutAt 58 r).1 = n) (hl : n < (cutAt 58 r).2.1.length) (hc : (cutAt 58 r).2.1[n]? = some 32)
      (h2 : ((cutAt 10 ((cutAt 58 r).2.1.drop (n + 1))).2.2 && numOk (cutAt 10 ((cutAt 58 r).2.1.drop (n + 1))).1) = true)
      (e : oneP r = some ((tx ((cutAt 58 r).2.1.take n), atoiV (cutAt 10 ((cutAt 58 r).2.1.drop (n + 1))).1), (cutAt 10 ((cutAt 58 r).2.1.drop (n + 1))).2.1))
theorem numOk_none {l : List UInt8} (h : numOk l = false) : numS l = none := by
  unfold numOk at h
  cases hn : numS l with
  | none => rfl
  | some v => rw [hn] at h; cases h
theorem stepP (r : List UInt8) : StepP r := by
  cases h : ((cutAt 58 r).2.2 && numOk (cutAt 58 r).1) with
  | false =>
    refine .head h ?_
    have : headP r = none := by
      unfold headP
      cases hk : numOk (cutAt 58 r).1 with
      | false => rw [numOk_none hk]
      | true =>
        rw [numOk_val hk]
        rw [hk, Bool.and_true] at h
        simp only
        rw [if_neg]
        rintro ⟨h1, _⟩
        rw [h] at h1; cases h1
    unfold oneP; rw [this]
  | true =>
    have h' := h
    simp only [Bool.and_eq_true] at h'
    obtain ⟨h1, h2⟩ := h'
    have hv := numOk_val h2
    by_cases hn : atoiV (cutAt 58 r).1 < 0
    · refine .neg h hn ?_
      have : headP r = none := by
        unfold headP
        rw [hv]
        simp only
        rw [if_neg]
        rintro ⟨_, h3, _⟩; omega
      unfold oneP; rw [this]
    · obtain ⟨n, hn'⟩ : ∃ n : Nat, atoiV (cutAt 58 r).1 = n := ⟨(atoiV (cutAt 58 r).1).toNat, by omega⟩
      by_cases hl : n < (cutAt 58 r).2.1.length
      · obtain ⟨c, hc⟩ : ∃ c, (cutAt 58 r).2.1[n]? = some c := ⟨_, List.getElem?_eq_getElem hl⟩
        by_cases h32 : c = 32
        · subst h32
          have hh : headP r = some ((cutAt 58 r).2.1.take n, (cutAt 58 r).2.1.drop (n + 1)) := by
            unfold headP
            rw [hv, hn']
            simp only
            rw [if_pos ⟨h1, by omega, by omega, by rw [Int.toNat_natCast]; exact hc⟩, Int.toNat_natCast]
          cases h3 : ((cutAt 10 ((cutAt 58 r).2.1.drop (n + 1))).2.2 && numOk (cutAt 10 ((cutAt 58 r).2.1.drop (n + 1))).1) with
          | false =>
            refine .val h n hn' hl hc h3 ?_
            have : valP ((cutAt 58 r).2.1.drop (n + 1)) = none := by
              unfold valP
              cases hk : numOk (cutAt 10 ((cutAt 58 r).2.1.drop (n + 1))).1 with
              | false => rw [numOk_none hk]
              | true =>
                rw [numOk_val hk]
                rw [hk, Bool.and_true] at h3
                simp only
                rw [if_neg]
                intro h4; rw [h3] at h4; cases h4
            unfold oneP; rw [hh]; simp only; rw [this]
          | true =>
            refine .ok h n hn' hl hc h3 ?_
            have h3' := h3
            simp only [Bool.and_eq_true] at h3'
            unfold oneP
            rw [hh]
            simp only
            unfold valP
            rw [numOk_val h3'.2]
            simp only
            rw [if_pos h3'.1]
        · refine .blank h n hn' hl c hc h32 ?_
          have : headP r = none := by
            unfold headP
            rw [hv, hn']
            simp only
            rw [if_neg]
            rintro ⟨_, _, _, h4⟩
            rw [Int.toNat_natCast, hc] at h4
            exact h32 (by simpa using h4)
          unfold oneP; rw [this]
      · refine .long h n hn' (by omega) ?_
        have : headP r = none := by
          unfold headP
          rw [hv, hn']
          simp only
          rw [if_neg]
          rintro ⟨_, _, h3, _⟩; omega
        unfold oneP; rw [this]
theorem parse_acc {S r : List UInt8} {acc : List Pr} (h : parseP S = (parseP r).map (acc ++ ·)) (ho : oneP r = none) (hr : r ≠ []) : parseP S = none := by rw [h, parseP_none hr ho]; rfl
theorem parse_more {S r m : List UInt8} {acc : List Pr} {p : Pr} (h : parseP S = (parseP r).map (acc ++ ·)) (ho : oneP r = some (p, m)) : parseP S = (parseP m).map ((acc ++ [p]) ++ ·) := by
  rw [h, parseP_some ho]
  cases parseP m <;> simp
theorem parse_end {S : List UInt8} {acc : List Pr} (h : parseP S = (parseP []).map (acc ++ ·)) : parseP S = some acc := by rw [h, parseP_nil]; simp
def strLen : Value → Nat
  | .string s => s.size
  | _ => 0
theorem tx_at {l : List UInt8} {n : Nat} {c : UInt8} (h : l[n]? = some c) (hn : n < (tx l).size) : (tx l)[n] = c := by
  have h2 := (List.getElem?_eq_some_iff.1 h).2
  rw [← h2]
  simp [tx, ByteArray.getElem_eq_getElem_data]
theorem tx_extD (l : List UInt8) (n : Nat) : (tx l).extract n (tx l).size = tx (l.drop n) := by
  have := tx_drop (tx l) n
  rw [tx_list] at this
  exact this.symm
theorem tx_extT (l : List UInt8) (n : Nat) : (tx l).extract 0 n = tx (l.take n) := by
  have := tx_take (tx l) n
  rw [tx_list] at this
  exact this.symm
/-- what a reader hands back -/
def ParsePost (S : List UInt8) (ev ok : Value) (w : World) (e : Ending) (w' : World) : Prop :=
  (∃ v, e = .returned (.tuple #[v, if (parseP S).isSome = true then ok else ev]) ∧ Own 2 encP 101 w' w.heap.size v ((parseP S).getD [])) ∧ Below w.heap.size w w'
theorem ParsePost.bad {S : List UInt8} {ev ok : Value} {w w' : World} (h : parseP S = none) (hb : Below w.heap.size w w') : ParsePost S ev ok w (.returned (.tuple #[.slice none 0 0, ev])) w' := by
  unfold ParsePost
  rw [h]
  exact ⟨⟨_, rfl, Own.nil⟩, hb⟩
theorem ParsePost.good {S : List UInt8} {ev ok v : Value} {w w' : World} {l : List Pr} (h : parseP S = some l) (ho : Own 2 encP 101 w' w.heap.size v l) (hb : Below w.heap.size w w') : ParsePost S ev ok w (.returned (.tuple #[v, ok])) w' := by
  unfold ParsePost
  rw [h]
  exact ⟨⟨v, rfl, ho⟩, hb⟩
set_option maxRecDepth 100000 in
set_option maxHeartbeats 2000000 in
theorem Parse_any (s : ByteArray) (w : World) (hg : GW w) (hs : s.size ≤ 10000000) :
    Calls Tryz.prog 75 #[.string s] w (ParsePost s.data.toList (errV 4) .nilIface w) := by
  obtain ⟨i0, hi, hz0, hz1, hz2⟩ := info_parts infoPair
  have HG := hide hg
  clear hg
  have hsl := tl_len s
  obtain ⟨S, hS⟩ : ∃ S, s.data.toList = S := ⟨_, rfl⟩
  obtain rfl : s = tx S := by rw [← hS, tx_of]
  rw [tx_list]
  rw [tx_list] at hsl
  clear hS
  go_enter Tryz.func75, Tryz.ntmps75
  go_wp2
  go_loopw [0, 4] (fun sv v wr => ∃ (r : List UInt8) (acc : List Pr), sv = .string (tx r) ∧ r.length + acc.length ≤ S.length ∧ Hid (parseP S = (parseP r).map (acc ++ ·)) ∧ Own 2 encP 101 wr w.heap.size v acc ∧ Below w.heap.size w wr) (fun sv _ _ => strLen sv)
  case atStart => exact ⟨S, [], rfl, by simp, by show _ = _; cases parseP S <;> simp, Own.nil, Below.refl _ _⟩
  case round =>
    obtain ⟨r, acc, rfl, hlen, HP, hown, hnx⟩ := hrel
    by_cases hr : r = []
    · subst hr
      have HE := hide (parse_end HP.out)
      have e1 : (tx ([] : List UInt8)).toList.isEmpty = true := by rw [tl]; rfl
      have e2 : (tx ([] : List UInt8)).toList = [] := by rw [tl]; rfl
      obtain ⟨⟨ao, cap, rfl⟩, _⟩ := id hown
      have HO := hide hown
      clear HP hown
      go_wp2
      go_ret2
      exact ParsePost.good HE.out HO.out hnx
    · have e1 : (tx r).toList.isEmpty = false := by
        rw [tl, tx_list]; cases r with
        | nil => exact (hr rfl).elim
        | cons a t => rfl
      have hrl : 1 ≤ r.length := List.length_pos_iff.2 hr
      have HN := hide (number_any (tx r) 58 wr (HG.out.later hnx (Nat.le_refl _)) (by rw [tx_size]; omega))
      rw [tx_list] at HN
      have hcl := (cutAt_len 58 r).1
      have hst := stepP r
      generalize hq : cutAt 58 r = q at *
      obtain ⟨A, R, o⟩ := q
      have HQ := hide hq
      clear hq
      have HNX := hide hnx
      have hws := hnx.size
      have HO := hide hown
      obtain ⟨⟨ao, cap, rfl⟩, _⟩ := id hown
      clear hnx hown
      have hRl : R.length ≤ 10000000 := by simp only at hcl; omega
      have hTR : (tx R).size = R.length := tx_size R
      rcases hst with ⟨h, e⟩ | ⟨h, hn, e⟩ | ⟨h, n, hn, hl, e⟩ | ⟨h, n, hn, hl, c, hc, h32, e⟩ | ⟨h, n, hn, hl, hc, h2, e⟩ | ⟨h, n, hn, hl, hc, h2, e⟩
      · rw [HQ.out] at h
        dsimp only at HN h
        rw [h] at HN
        have HE := hide (parse_acc HP.out e hr)
        clear HP e h hcl hTR
        go_wp2_with fail
        refine HN.out.mono ?_
        rintro e w1 ⟨rfl, b1⟩
        have HB := hide (HNX.out.trans (b1.mono hws))
        clear b1 HN
        go_wp2
        go_ret2
        exact ParsePost.bad HE.out HB.out
      · rw [HQ.out] at h hn
        dsimp only at HN h hn
        rw [h] at HN
        have HE := hide (parse_acc HP.out e hr)
        generalize atoiV A = nv at *
        have g1 : decide (nv < 0) = true := by simpa using hn
        clear HP e h hcl hn hTR
        go_wp2_with fail
        refine HN.out.mono ?_
        rintro e w1 ⟨rfl, b1⟩
        have HB := hide (HNX.out.trans (b1.mono hws))
        clear b1 HN
        go_wp2
        go_ret2
        exact ParsePost.bad HE.out HB.out
      · rw [HQ.out] at h hn hl
        dsimp only at HN h hn hl
        rw [h, hn] at HN
        have HE := hide (parse_acc HP.out e hr)
        generalize tx R = T at *
        have g2 : T.size ≤ n := by omega
        clear HP e h hcl hn hl hTR
        go_wp2_with fail
        refine HN.out.mono ?_
        rintro e w1 ⟨rfl, b1⟩
        have HB := hide (HNX.out.trans (b1.mono hws))
        clear b1 HN
        go_wp2
        go_ret2
        exact ParsePost.bad HE.out HB.out
      · rw [HQ.out] at h hn hl hc
        dsimp only at HN h hn hl hc
        rw [h, hn] at HN
        have HE := hide (parse_acc HP.out e hr)
        have hx := fun hn => tx_at hc hn
        generalize tx R = T at *
        have g2 : n < T.size := by omega
        have g3 : (0 : Int) ≤ (n : Int) ∧ (n : Int) < (T.size : Int) := by omega
        obtain ⟨g3, g4⟩ := g3
        have g5 : ((T[n].toNat : Int) != 32) = true := by
          rw [bne_iff_ne]; intro e; exact h32 (by rw [← hx g2]; exact UInt8.toNat_inj.1 (by show T[n].toNat = 32; omega))
        clear HP e h hcl hn hl hx hc h32 hTR
        go_wp2_with fail
        refine HN.out.mono ?_
        rintro e w1 ⟨rfl, b1⟩
        have HB := hide (HNX.out.trans (b1.mono hws))
        clear b1 HN
        go_wp2
        go_ret2
        exact ParsePost.bad HE.out HB.out
      · rw [HQ.out] at h hn hl hc h2
        dsimp only at HN h hn hl hc h2
        rw [h, hn] at HN
        have HE := hide (parse_acc HP.out e hr)
        have hx := fun hn => tx_at hc hn
        have hD := tx_extD R (n + 1)
        generalize tx R = T at *
        have g2 : n < T.size := by omega
        have g3 : (0 : Int) ≤ (n : Int) ∧ (n : Int) < (T.size : Int) ∧ (n : Int) + 1 ≤ (T.size : Int) ∧ (n : Int) ≤ 10000000 ∧ T.size ≤ 10000000 := by omega
        obtain ⟨g3, g4, g6, g7, g8⟩ := g3
        have g5 : ((T[n].toNat : Int) != 32) = false := by rw [hx g2]; rfl
        have HN2 : Hid (∀ w', GW w' → Calls Tryz.prog 112 #[.string (T.extract (n + 1) T.size), .string ⟨#[10]⟩] w' fun e w'' => e = .returned (.tuple #[.int .i64 (atoiV (cutAt 10 (R.drop (n + 1))).1), .string (tx (cutAt 10 (R.drop (n + 1))).2.1), .bool false]) ∧ Below w'.heap.size w' w'') := fun w' hg => by
          have := number_any (tx (R.drop (n + 1))) 10 w' hg (by rw [tx_size, List.length_drop]; omega)
          rwa [tx_list, h2, ← hD] at this
        have HGW := hide (HG.out.later HNX.out (Nat.le_refl _))
        clear HP e h hcl hn hl hx hc h2 hD hTR
        go_wp2_with fail
        refine HN.out.mono ?_
        rintro e w1 ⟨rfl, b1⟩
        have HB := hide (HNX.out.trans (b1.mono hws))
        have HN3 := hide (HN2.out w1 (HGW.out.later b1 (Nat.le_refl _)))
        clear b1 HN HN2
        go_wp2_with fail
        refine HN3.out.mono ?_
        rintro e w2 ⟨rfl, b2⟩
        have HB2 := hide (HB.out.trans (b2.mono HB.out.size))
        clear b2 HN3
        go_wp2
        go_ret2
        exact ParsePost.bad HE.out HB2.out
      · rw [HQ.out] at h hn hl hc h2 e
        dsimp only at HN h hn hl hc h2 e
        rw [h, hn] at HN
        have HE := hide (parse_more HP.out e)
        have hx := fun hn => tx_at hc hn
        have hD := tx_extD R (n + 1)
        have hT := tx_extT R n
        have hcl2 := (cutAt_len 10 (R.drop (n + 1))).1
        rw [List.length_drop] at hcl2
        generalize tx R = T at *
        have g2 : n < T.size := by omega
        have g3 : (0 : Int) ≤ (n : Int) ∧ (n : Int) < (T.size : Int) ∧ (n : Int) + 1 ≤ (T.size : Int) ∧ (n : Int) ≤ 10000000 ∧ T.size ≤ 10000000 := by omega
        obtain ⟨g3, g4, g6, g7, g8⟩ := g3
        have g5 : ((T[n].toNat : Int) != 32) = false := by rw [hx g2]; rfl
        have HN2 : Hid (∀ w', GW w' → Calls Tryz.prog 112 #[.string (T.extract (n + 1) T.size), .string ⟨#[10]⟩] w' fun e w'' => e = .returned (.tuple #[.int .i64 (atoiV (cutAt 10 (R.drop (n + 1))).1), .string (tx (cutAt 10 (R.drop (n + 1))).2.1), .bool true]) ∧ Below w'.heap.size w' w'') := fun w' hg => by
          have := number_any (tx (R.drop (n + 1))) 10 w' hg (by rw [tx_size, List.length_drop]; omega)
          rwa [tx_list, h2, ← hD] at this
        have HGW := hide (HG.out.later HNX.out (Nat.le_refl _))
        have HT := hide hT
        have hml : (cutAt 10 (R.drop (n + 1))).2.1.length + (acc.length + 1) ≤ S.length ∧ (cutAt 10 (R.drop (n + 1))).2.1.length < r.length := by
          simp only at hcl; omega
        obtain ⟨hm1, hm2⟩ := hml
        generalize atoiV (cutAt 10 (R.drop (n + 1))).1 = v at *
        generalize (cutAt 10 (R.drop (n + 1))).2.1 = M at *
        clear HP e h hcl hcl2 hn hl hx hc h2 hD hT hTR
        go_wp2_with fail
        refine HN.out.mono ?_
        rintro e w1 ⟨rfl, b1⟩
        have HB := hide (HNX.out.trans (b1.mono hws))
        have HN3 := hide (HN2.out w1 (HGW.out.later b1 (Nat.le_refl _)))
        have HO1 := hide (HO.out.later b1)
        clear b1 HN HN2 HO
        go_wp2_with fail
        refine HN3.out.mono ?_
        rintro e w2 ⟨rfl, b2⟩
        have HB2 := hide (HB.out.trans (b2.mono HB.out.size))
        have hown2 := HO1.out.later b2
        have hb2 := HB2.out
        have hw2 := HB2.out.size
        clear b2 HN3 HB HO1
        go_wp2_with (at_builtin; refine wpList_append_one encP_len _ _ 53 i0 _ rfl rfl Tryz.underlying53 hi hz0 hz1 hz2 rfl (by decide) (by decide) (hown2.alloc _) (hb2.alloc hw2 _) ?c1 ?c2 rfl (T.extract 0 n, v) ⟨w2.heap.size, 0, none⟩ 1 rfl (news_at rfl rfl) (one_pair _) ?_)
        case c1 => simp; omega
        case c2 => omega
        intro v' w3 hown3 hb3 _ _
        have HO3 := hide hown3
        have HB3 := hide hb3
        clear hown3 hb3 hown2 hb2
        go_wp2
        go_roundw
        case rel => exact ⟨M, acc ++ [(tx (R.take n), v)], rfl, by simp; omega, HE.out, by rw [← HT.out]; exact HO3.out, HB3.out⟩
        case measure => (simp only [strLen, tx_size]; omega)
end Go.Proofs.YtgeedjlbajmdkaaGreatDoor
