/- The mapper: the pairs of a record. -/
import Derived.Test.YtgeedjlbajmdkaaGreatDoorOne
import Derived.Test.YtgeedjlbajmdkaaGreatDoorExpr11
import Derived.Test.YtgeedjlbajmdkaaGreatDoorWords
import Derived.Test.YtgeedjlbajmdkaaGreatDoorJobCheck2
set_option linter.unusedSimpArgs false
set_option linter.unusedVariables false
namespace Go.Proofs.YtgeedjlbajmdkaaGreatDoor
open Go.RowKit

theorem words_line {line : ByteArray} (h : line.size ≤ 500) : (wordsB line).length ≤ 501 ∧ ∀ x ∈ wordsB line, x.size ≤ 1000 := by
  rw [wordsB_eq, List.length_map]
  have h3 := tl_len line
  constructor
  · have := words_len line.data.toList
    omega
  · intro x hx
    obtain ⟨l, hl, rfl⟩ := List.mem_map.1 hx
    rw [tx_size]
    have := (words_mem hl).2.1
    omega
theorem its_succ {α β : Type} {f : α → Option β} {l : List α} {k : Nat} {x : α} (h : l[k]? = some x) : (l.take (k + 1)).filterMap f = (l.take k).filterMap f ++ (f x).toList := by
  obtain ⟨hlt, hx⟩ := List.getElem?_eq_some_iff.1 h
  rw [List.take_succ_eq_append_getElem hlt, hx, List.filterMap_append]
  cases h2 : f x <;> simp [h2]
theorem pairsJ_small (rs : List RuleV) (kind : Int) (line : ByteArray) (h : line.size ≤ 500) : (pairsJ rs kind line).length ≤ rs.length * 502 := by
  unfold pairsJ
  induction rs with
  | nil => simp
  | cons r rs ih =>
    rw [List.flatMap_cons, List.length_append, List.length_cons, Nat.succ_mul]
    have h1 := pairsR_len r kind line
    have h3 := (words_line h).1
    omega
/-- the inner loop, at one rule: what it has to keep -/
structure MIn (w1 wr : World) (xb rb : Nat) (r : RuleR) (line : ByteArray) (wo : Option Addr) (wn wcap : Nat) (so : Option Addr) (its : List ByteArray) (v : Value) (l : List Pr) : Prop where
  own : Own 2 encP 101 wr (xb + 1) v l
  rcd : ∃ it, Bk wr xb [.string line, .string it, .slice wo wn wcap]
  rule : Bk wr rb (encRule r)
  sl : Sl 1 encS wr so its
  bel : Below xb w1 wr
  apart : ∀ q, v.ownBlock = some q → q ≠ rb ∧ ∀ b o, so = some ⟨b, o, none⟩ → q ≠ b
  so_ : ∀ b o, so = some ⟨b, o, none⟩ → b ≠ xb ∧ b < wr.heap.size
  ne : rb ≠ xb
  size : xb < wr.heap.size
set_option maxRecDepth 100000 in
set_option maxHeartbeats 4000000 in
theorem Pairs_any (ro : Option Addr) (rc : Nat) (rs : List RuleR) (fold slices : Int) (early : Bool) (line : ByteArray) (d : Nat) (w : World) (hg : GM w) (hl : rs.length ≤ 1000) (hline : line.size ≤ 500) (hs : Sl 15 encRule w ro rs) (hr : ∀ r ∈ rs, RuleAt w d r) (hok : ∀ r ∈ rs, RuleOk r.v) :
    Calls Tryz.prog 25 #[.agg #[.slice ro rs.length rc, .int .i64 fold, .bool early, .int .i64 slices], .string line] w fun e w' => ∃ v, e = .returned v ∧ Own 2 encP 101 w' w.heap.size v (pairsJ (rs.map RuleR.v) fold line) ∧ Below w.heap.size w w' := by
  obtain ⟨i0, hi0, hz0, hz1, hz2⟩ := info_parts infoPair
  obtain ⟨W1, hW1⟩ : ∃ W, W = w.alloc (.cells #[.slice ro rs.length rc, .int .i64 fold, .bool early, .int .i64 slices] 24) := ⟨_, rfl⟩
  have hb1 : Below w.heap.size w W1 := by rw [hW1]; exact (Below.refl _ _).alloc (Nat.le_refl _) _
  have hbj : Bk W1 w.heap.size [.slice ro rs.length rc, .int .i64 fold, .bool early, .int .i64 slices] := by rw [hW1]; exact Bk.new rfl
  have HX := hide (Of_any line W1 (hg.later hb1 (Nat.le_refl _)) (by omega))
  have HR := hide hr
  have HOK := hide hok
  have HS := hide hs
  have HWL := hide (words_line hline)
  have HPS := hide (pairsJ_small (rs.map RuleR.v) fold line hline)
  have HLI := hide hline
  have HW1 := hide hW1
  have HB1 := hide hb1
  have HBJ := hide hbj
  clear hr hok hs hline hW1 hb1 hbj hg
  go_enter Tryz.func25, Tryz.ntmps25
  go_upto_region 1 with (fail)
  rw [← HW1.out]
  clear HW1
  go_wp2_with fail
  refine HX.out.mono ?_
  rintro e w2 ⟨wv, rfl, ho, b2⟩
  obtain ⟨wo, wcap, rfl⟩ := id ho.1
  clear HX
  have HB2 := hide (HB1.out.trans (b2.mono HB1.out.size))
  have HBJ2 := hide (HBJ.out.later b2)
  have HWS := hide (ho.sl encS_len)
  have HWB : Hid (∀ b o, wo = some ⟨b, o, none⟩ → b < w2.heap.size) := fun b o e => (ho.lt b (by subst e; rfl)).2
  have HJL := hide HBJ2.out.lt
  clear HB1 HBJ ho b2
  go_upto_region 2 with (fail)
  have hba : Below w2.heap.size w2 (w2.alloc (.cells #[.string line, .string ⟨#[]⟩, .slice wo (wordsB line).length wcap] 109)) := (Below.refl _ _).alloc (Nat.le_refl _) _
  obtain ⟨W3, hW3⟩ : ∃ W, W = w2.alloc (.cells #[.string line, .string ⟨#[]⟩, .slice wo (wordsB line).length wcap] 109) := ⟨_, rfl⟩
  have hr0 : Bk W3 w2.heap.size [.string line, .string ⟨#[]⟩, .slice wo (wordsB line).length wcap] := by rw [hW3]; exact Bk.new rfl
  rw [← hW3]
  rw [← hW3] at hba
  clear hW3
  have j0 := (HBJ2.out.later hba).get (j := 0) rfl
  go_wp2
  clear j0
  have HSZ : Hid (w2.heap.size < W3.heap.size) := hr0.lt
  go_loopw [6, 19] (fun v i wr => ∃ k : Nat, k ≤ rs.length ∧ i = .int .i64 k ∧ Hid (Own 2 encP 101 wr (w2.heap.size + 1) v (pairsJ ((rs.map RuleR.v).take k) fold line)) ∧ Hid (Bk wr w2.heap.size [.string line, .string ⟨#[]⟩, .slice wo (wordsB line).length wcap]) ∧ Hid (Below w2.heap.size w2 wr)) (fun _ i _ => rs.length - (intOf i).toNat)
  case atStart => exact ⟨0, by omega, by go_num, Own.nil, hr0, hba⟩
  case round =>
    obtain ⟨k, hk, rfl, HOW, HRC, HBE⟩ := hrel
    clear hr0 hba HSZ
    have HBW := hide (HB2.out.trans (HBE.out.mono HB2.out.size))
    by_cases hlt : k < rs.length
    · obtain ⟨b, off, r, rfl, hbw, hlk, hc⟩ := (HS.out.later HBW.out (Nat.le_refl _)).rule hlt
      have HRA := hide (HR.out r (List.mem_of_getElem? hlk))
      have HRO := hide (HOK.out r (List.mem_of_getElem? hlk))
      have HSU := hide (pairsJ_succ fold line (show (rs.map RuleR.v)[k]? = some r.v by rw [List.getElem?_map, hlk]; rfl))
      have HLT : Hid ((pairsJ ((rs.map RuleR.v).take k) fold line).length ≤ 1000000) := by
        have h1 := pairsJ_small ((rs.map RuleR.v).take k) fold line HLI.out
        have h2 : ((rs.map RuleR.v).take k).length ≤ 1000 := by rw [List.length_take, List.length_map]; omega
        have h3 := Nat.mul_le_mul_right 502 h2
        show _ ≤ _
        omega
      generalize pairsJ ((rs.map RuleR.v).take k) fold line = acc at *
      have k0 : wr.cell? ⟨b, off + k * 15, none⟩ = some (.bool r.each) := hc 0 _ rfl
      have k1 := hc 1 _ rfl
      have k2 := hc 2 _ rfl
      have k3 := hc 3 _ rfl
      have k4 := hc 4 _ rfl
      have k5 := hc 5 _ rfl
      have k6 := hc 6 _ rfl
      have k7 := hc 7 _ rfl
      have k8 := hc 8 _ rfl
      have k9 := hc 9 _ rfl
      have k10 := hc 10 _ rfl
      have k11 := hc 11 _ rfl
      have k12 := hc 12 _ rfl
      have k13 := hc 13 _ rfl
      have k14 := hc 14 _ rfl
      have f1 : (0 : Int) ≤ (k : Int) ∧ (k : Int) < (rs.length : Int) := by omega
      obtain ⟨f1, f2⟩ := f1
      clear hlk hc
      go_upto_region 6 with (fail)
      have hbA : Below wr.heap.size wr ((wr.alloc (.cells #[.bool r.each, .int .i64 r.when_, .int .i64 r.cond.k, .int .i64 r.cond.n, .string r.cond.s, .slice r.cond.ao r.cond.a.length r.cond.cap, .string r.txt, .int .i64 r.key.k, .int .i64 r.key.n, .string r.key.s, .slice r.key.ao r.key.a.length r.key.cap, .int .i64 r.val.k, .int .i64 r.val.n, .string r.val.s, .slice r.val.ao r.val.a.length r.val.cap] 69)).alloc (.cells #[.string ⟨#[]⟩] 9)) := ((Below.refl _ _).alloc (Nat.le_refl _) _).alloc (by simp) _
      have hru : Bk ((wr.alloc (.cells #[.bool r.each, .int .i64 r.when_, .int .i64 r.cond.k, .int .i64 r.cond.n, .string r.cond.s, .slice r.cond.ao r.cond.a.length r.cond.cap, .string r.txt, .int .i64 r.key.k, .int .i64 r.key.n, .string r.key.s, .slice r.key.ao r.key.a.length r.key.cap, .int .i64 r.val.k, .int .i64 r.val.n, .string r.val.s, .slice r.val.ao r.val.a.length r.val.cap] 69)).alloc (.cells #[.string ⟨#[]⟩] 9)) wr.heap.size (encRule r) := Bk.alloc (Bk.new rfl) _
      have hlit : Sl 1 encS ((wr.alloc (.cells #[.bool r.each, .int .i64 r.when_, .int .i64 r.cond.k, .int .i64 r.cond.n, .string r.cond.s, .slice r.cond.ao r.cond.a.length r.cond.cap, .string r.txt, .int .i64 r.key.k, .int .i64 r.key.n, .string r.key.s, .slice r.key.ao r.key.a.length r.key.cap, .int .i64 r.val.k, .int .i64 r.val.n, .string r.val.s, .slice r.val.ao r.val.a.length r.val.cap] 69)).alloc (.cells #[.string ⟨#[]⟩] 9)) (some ⟨wr.heap.size + 1, 0, none⟩) [⟨#[]⟩] := Sl.lit encS_len (heap_at (by simp)) rfl
      have hsz2 : ((wr.alloc (.cells #[.bool r.each, .int .i64 r.when_, .int .i64 r.cond.k, .int .i64 r.cond.n, .string r.cond.s, .slice r.cond.ao r.cond.a.length r.cond.cap, .string r.txt, .int .i64 r.key.k, .int .i64 r.key.n, .string r.key.s, .slice r.key.ao r.key.a.length r.key.cap, .int .i64 r.val.k, .int .i64 r.val.n, .string r.val.s, .slice r.val.ao r.val.a.length r.val.cap] 69)).alloc (.cells #[.string ⟨#[]⟩] 9)).heap.size = wr.heap.size + 1 + 1 := by simp
      clear k0 k1 k2 k3 k4 k5 k6 k7 k8 k9 k10 k11 k12 k13 k14
      have HRU := hide hru
      have HOW6 := hide (HOW.out.later hbA)
      have HRC6 := hide (HRC.out.later hbA)
      have HBE6 := hide (HBE.out.trans (hbA.mono HBE.out.size))
      have HUB : Hid (∀ q, u6.ownBlock = some q → w2.heap.size + 1 ≤ q ∧ q < wr.heap.size) := HOW.out.lt
      have HXB := hide HRC.out.lt
      have HSB6 := hide hbA.size
      clear hru hbA HOW HRC HBE HBW
      go_upto_region 7 with (fail)
      generalize (wr.alloc (.cells #[.bool r.each, .int .i64 r.when_, .int .i64 r.cond.k, .int .i64 r.cond.n, .string r.cond.s, .slice r.cond.ao r.cond.a.length r.cond.cap, .string r.txt, .int .i64 r.key.k, .int .i64 r.key.n, .string r.key.s, .slice r.key.ao r.key.a.length r.key.cap, .int .i64 r.val.k, .int .i64 r.val.n, .string r.val.s, .slice r.val.ao r.val.a.length r.val.cap] 69)).alloc (.cells #[.string ⟨#[]⟩] 9) = W6 at *
      have e0 := HRU.out.get (j := 0) rfl
      obtain ⟨ec, hec⟩ : ∃ ec, r.each = ec := ⟨_, rfl⟩
      rw [hec] at e0
      have HEC := hide hec
      have HLIT := hide hlit
      clear hec hlit
      go_upto_if 25 with (fail)
      go_cut [9] from 26 to 27 (fun v wc => ∃ (so : Option Addr) (its : List ByteArray) (sc : Nat), v = .slice so its.length sc ∧ Hid (itsR r.v (wordsB line) = its) ∧ Hid (Sl 1 encS W6 so its) ∧ Hid (∀ b o, so = some ⟨b, o, none⟩ → b ≠ w2.heap.size ∧ b < W6.heap.size) ∧ Hid (∀ q, u6.ownBlock = some q → q ≠ wr.heap.size ∧ ∀ b o, so = some ⟨b, o, none⟩ → q ≠ b) ∧ Hid (its.length ≤ 501 ∧ ∀ x ∈ its, x.size ≤ 1000) ∧ W6 = wc)
      case first =>
        rcases Bool.eq_false_or_eq_true ec with he | he
        · have x2 := HRC6.out.get (j := 2) rfl
          have HIT : Hid (itsR r.v (wordsB line) = wordsB line) := by show _ = _; unfold itsR; rw [if_pos (show r.v.each = true from HEC.out.trans he)]
          have HSO := hide (HWS.out.later HBE6.out (Nat.le_refl _))
          have HSB : Hid (∀ b o, wo = some ⟨b, o, none⟩ → b ≠ w2.heap.size ∧ b < W6.heap.size) := fun b o e => by
            have h1 := HWB.out b o e
            have h2 := HBE6.out.size
            have h3 := HXB.out
            exact ⟨by omega, by omega⟩
          have HAP : Hid (∀ q, u6.ownBlock = some q → q ≠ wr.heap.size ∧ ∀ b o, wo = some ⟨b, o, none⟩ → q ≠ b) := fun q hq => by
            have h1 := HUB.out q hq
            exact ⟨by omega, fun b o e => by have := HWB.out b o e; omega⟩
          clear HUB
          subst he
          go_wp2
          go_meet
          exact ⟨_, _, _, rfl, HIT, HSO, HSB, HAP, HWL, rfl⟩
        · have HIT : Hid (itsR r.v (wordsB line) = [⟨#[]⟩]) := by show _ = _; unfold itsR; rw [if_neg (show ¬ r.v.each = true by rw [show r.v.each = ec from HEC.out, he]; simp)]
          have HSB : Hid (∀ b o, (some ⟨wr.heap.size + 1, 0, none⟩ : Option Addr) = some ⟨b, o, none⟩ → b ≠ w2.heap.size ∧ b < W6.heap.size) := fun b o e => by
            cases e
            have h3 := HXB.out
            exact ⟨by omega, by omega⟩
          have HAP : Hid (∀ q, u6.ownBlock = some q → q ≠ wr.heap.size ∧ ∀ b o, (some ⟨wr.heap.size + 1, 0, none⟩ : Option Addr) = some ⟨b, o, none⟩ → q ≠ b) := fun q hq => by
            have h1 := HUB.out q hq
            exact ⟨by omega, fun b o e => by cases e; omega⟩
          have HIL : Hid (([⟨#[]⟩] : List ByteArray).length ≤ 501 ∧ ∀ x ∈ ([⟨#[]⟩] : List ByteArray), x.size ≤ 1000) := ⟨by simp, fun x hx => by rw [List.mem_singleton.1 hx]; decide⟩
          clear HUB
          subst he
          go_wp2
          go_meet
          exact ⟨_, [⟨#[]⟩], _, rfl, HIT, HLIT, HSB, HAP, HIL, rfl⟩
      case rest =>
        obtain ⟨so, its, sc, rfl, HIT, HSO, HSB, HAP, HIL, rfl⟩ := hcut
        clear HLIT e0 HEC HUB
        have HIN : Hid (MIn w2 W6 w2.heap.size wr.heap.size r line wo (wordsB line).length wcap so its u6 acc) := by
          have h1 := HXB.out
          exact ⟨HOW6.out, ⟨_, HRC6.out⟩, HRU.out, HSO.out, HBE6.out, HAP.out, HSB.out, by omega, by have := HSB6.out; omega⟩
        have HMA : Hid (pairsR r.v fold line = its.filterMap (madeR r.v fold line (wordsB line))) := by show _ = _; unfold pairsR; rw [HIT.out]
        clear HOW6 HRC6 HRU HSO HBE6 HAP HSB HIT
        obtain ⟨wb, hwb⟩ : ∃ wb, wb = wr.heap.size := ⟨_, rfl⟩
        rw [← hwb] at HIN ⊢
        clear hwb
        go_wp2
        go_loopw [6, 30] (fun v i wi => ∃ m : Nat, m ≤ its.length ∧ i = .int .i64 m ∧ Hid (MIn w2 wi w2.heap.size wb r line wo (wordsB line).length wcap so its v (acc ++ (its.take m).filterMap (madeR r.v fold line (wordsB line))))) (fun _ i _ => its.length - (intOf i).toNat)
        case atStart => exact ⟨0, by omega, by go_num, by simpa using HIN⟩
        case round =>
          clear HIN
          obtain ⟨m, hm, rfl, HIN⟩ := hrel
          by_cases hlt2 : m < its.length
          · obtain ⟨b2, o2, it, rfl, hbw2, hlk2, c0⟩ := HIN.out.sl.str hlt2
            obtain ⟨it0, hr0⟩ := HIN.out.rcd
            have HIS := hide (HIL.out.2 it (List.mem_of_getElem? hlk2))
            have HST : Hid (acc ++ (its.take (m + 1)).filterMap (madeR r.v fold line (wordsB line)) = (acc ++ (its.take m).filterMap (madeR r.v fold line (wordsB line))) ++ (madeR r.v fold line (wordsB line) it).toList) := by
              show _ = _
              rw [its_succ (f := madeR r.v fold line (wordsB line)) hlk2, List.append_assoc]
            have HML : Hid ((acc ++ (its.take m).filterMap (madeR r.v fold line (wordsB line))).length ≤ 2000000) := by
              have h1 := List.length_filterMap_le (madeR r.v fold line (wordsB line)) (its.take m)
              have h2 : (its.take m).length ≤ 501 := by rw [List.length_take]; have := HIL.out.1; omega
              have h3 := HLT.out
              show _ ≤ _
              rw [List.length_append]
              omega
            generalize acc ++ (its.take m).filterMap (madeR r.v fold line (wordsB line)) = am at *
            have hil := HIL.out.1
            have x1 := hr0.get (j := 1) rfl
            have z1 := hr0.fz 1
            have f1 : (0 : Int) ≤ (m : Int) ∧ (m : Int) < (its.length : Int) := by omega
            obtain ⟨f1, f2⟩ := f1
            have HR0 := hide hr0
            clear hlk2 hr0
            go_upto_region 13 with (fail)
            have HRC7 : Hid (Bk (wr.setCell ⟨w2.heap.size, 1, none⟩ (.string it)) w2.heap.size [.string line, .string it, .slice wo (wordsB line).length wcap]) := HR0.out.set (k := 1) (u := .string it0) (.string it) rfl
            have HRU7 := hide (HIN.out.rule.setO (p := ⟨w2.heap.size, 1, none⟩) (fun e => HIN.out.ne e.symm) (.string it))
            have HOW7 := hide (HIN.out.own.setOther (a := ⟨w2.heap.size, 1, none⟩) (fun e => absurd (show w2.heap.size + 1 ≤ w2.heap.size from (HIN.out.own.lt _ e).1) (by omega)) (.string it))
            have HSO7 := hide (HIN.out.sl.kept ((KeptBut.refl (fun q => q = w2.heap.size) wr).setCell (p := ⟨w2.heap.size, 1, none⟩) rfl (.string it)) (fun b o e => (HIN.out.so_ b o e).1))
            have HBE7 := hide (HIN.out.bel.setCell (p := ⟨w2.heap.size, 1, none⟩) (Nat.le_refl _) (.string it))
            have HAP := hide HIN.out.apart
            have HSB : Hid (∀ b o, some ⟨b2, o2, none⟩ = some (⟨b, o, none⟩ : Addr) → b ≠ w2.heap.size ∧ b < (wr.setCell ⟨w2.heap.size, 1, none⟩ (.string it)).heap.size) := fun b o e => by
              have h1 := HIN.out.so_ b o e
              exact ⟨h1.1, by simpa [World.setCell] using h1.2⟩
            have HNE := hide HIN.out.ne
            have HSZ7 : Hid (w2.heap.size < (wr.setCell ⟨w2.heap.size, 1, none⟩ (.string it)).heap.size) := by
              have := HIN.out.size
              show _ < _
              simpa [World.setCell] using this
            clear HIN HR0 x1 z1 c0
            generalize wr.setCell ⟨w2.heap.size, 1, none⟩ (.string it) = W7 at *
            have HBW7 := hide (HB2.out.trans (HBE7.out.mono HB2.out.size))
            have k0 := HRU7.out.get (j := 0) rfl
            have k1 := HRU7.out.get (j := 1) rfl
            have k2 := HRU7.out.get (j := 2) rfl
            have k3 := HRU7.out.get (j := 3) rfl
            have k4 := HRU7.out.get (j := 4) rfl
            have k5 := HRU7.out.get (j := 5) rfl
            have k6 := HRU7.out.get (j := 6) rfl
            have k7 := HRU7.out.get (j := 7) rfl
            have k8 := HRU7.out.get (j := 8) rfl
            have k9 := HRU7.out.get (j := 9) rfl
            have k10 := HRU7.out.get (j := 10) rfl
            have k11 := HRU7.out.get (j := 11) rfl
            have k12 := HRU7.out.get (j := 12) rfl
            have k13 := HRU7.out.get (j := 13) rfl
            have k14 := HRU7.out.get (j := 14) rfl
            have x0 := HRC7.out.get (j := 0) rfl
            have x1 := HRC7.out.get (j := 1) rfl
            have x2 := HRC7.out.get (j := 2) rfl
            have j1 : W7.cell? ⟨w.heap.size, 1, none⟩ = some (.int .i64 fold) := by
              rw [HBE7.out.cell (p := ⟨w.heap.size, 1, none⟩) HJL.out]
              exact HBJ2.out.get (j := 1) rfl
            have HON := hide (one_any r d line it wo wcap (wordsB line) fold W7 (HRA.out.later HBW7.out (Nat.le_refl _)) HRO.out (by have := HLI.out; omega) HIS.out HWL.out.2 (by have := HWL.out.1; omega) (HWS.out.later HBE7.out (Nat.le_refl _)))
            unfold RuleR.agg at HON
            go_wp2_with fail
            refine HON.out.mono ?_
            rintro e w8 ⟨⟨p, rfl, hpp⟩, b8⟩
            obtain ⟨pk, pv⟩ := p
            clear k0 k1 k2 k3 k4 k5 k6 k7 k8 k9 k10 k11 k12 k13 k14 x0 x1 x2 j1 HON
            have HML2 := HML
            have HRC8 := hide (HRC7.out.later b8)
            have HRU8 := hide (HRU7.out.later b8)
            have HOW8 := hide (HOW7.out.later b8)
            have HSO8 := hide (HSO7.out.later b8 (Nat.le_refl _))
            have HBE8 := hide (HBE7.out.trans (b8.mono HBE7.out.size))
            have HUB8 : Hid (∀ q, u6.ownBlock = some q → q < w8.heap.size) := fun q hq => (HOW8.out.lt q hq).2
            have HPP := hide hpp
            have hz8 := b8.size
            have HSZ8 : Hid (w2.heap.size < w8.heap.size) := Nat.lt_of_lt_of_le HSZ7.out hz8
            have HSB8 : Hid (∀ b o, some ⟨b2, o2, none⟩ = some (⟨b, o, none⟩ : Addr) → b ≠ w2.heap.size ∧ b < w8.heap.size) := fun b o e => ⟨(HSB.out b o e).1, Nat.lt_of_lt_of_le (HSB.out b o e).2 hz8⟩
            have HWB8 : Hid (wb < w8.heap.size) := HRU8.out.lt
            clear HRC7 HRU7 HOW7 HSO7 HBE7 HSB b8 hpp HBW7 HSZ7 hz8
            by_cases his : ifR r.v line it (wordsB line) = true
            · have HP2 := hide (HPP.out his)
              have HMD : Hid (madeR r.v fold line (wordsB line) it = some (pairR r.v fold line it (wordsB line))) := by show _ = _; unfold madeR; rw [if_pos his]
              rw [his]
              have HON2 : Hid (Own 2 encP 101 ((w8.alloc (.cells #[.string pk, .int .i64 pv] 101)).alloc (.cells #[.string pk, .int .i64 pv] 101)) (w2.heap.size + 1) u6 am) := (HOW8.out.alloc _).alloc _
              obtain ⟨ua, uc, hu6⟩ := id HON2.out.1
              subst hu6
              have hlen : am.length + 1 ≤ 1000000000 := by have := HML.out; omega
              have hB2 : w2.heap.size + 1 ≤ ((w8.alloc (.cells #[.string pk, .int .i64 pv] 101)).alloc (.cells #[.string pk, .int .i64 pv] 101)).heap.size := by have := HSZ8.out; simp; omega
              have HB22 := hide hB2
              have HLEN := hide hlen
              clear his HPP hlen hB2
              go_wp2_with (at_builtin; refine wpList_append_one encP_len _ _ 53 i0 _ rfl rfl Tryz.underlying53 hi0 hz0 hz1 hz2 rfl (by decide) (by decide) HON2.out (Below.refl _ _) HB22.out HLEN.out rfl (pk, pv) ⟨w8.heap.size + 1, 0, none⟩ 1 rfl (news_at ?c3 rfl) ?c4 ?_)
              case c3 => simp
              case c4 => exact one_pair _
              intro v' w1 hown1 hb1 hgr hat
              have hba : Below w8.heap.size w8 ((w8.alloc (.cells #[.string pk, .int .i64 pv] 101)).alloc (.cells #[.string pk, .int .i64 pv] 101)) := ((Below.refl _ _).alloc (Nat.le_refl _) _).alloc (by simp) _
              have hzz : ((w8.alloc (.cells #[.string pk, .int .i64 pv] 101)).alloc (.cells #[.string pk, .int .i64 pv] 101)).heap.size = w8.heap.size + 1 + 1 := by simp
              have hkb : KeptBut (fun q => (Value.slice ua am.length uc).ownBlock = some q) ((w8.alloc (.cells #[.string pk, .int .i64 pv] 101)).alloc (.cells #[.string pk, .int .i64 pv] 101)) w1 := KeptBut.of_grown hgr fun q e => e
              have HIN2 : Hid (MIn w2 w1 w2.heap.size wb r line wo (wordsB line).length wcap (some ⟨b2, o2, none⟩) its v' (am ++ [(pk, pv)])) := by
                have hu := HUB8.out
                have ha := HAP.out
                have hnx : (Value.slice ua am.length uc).ownBlock ≠ some w2.heap.size := fun e => absurd (show w2.heap.size + 1 ≤ w2.heap.size from (HOW8.out.lt _ e).1) (by omega)
                have hsb := HSB8.out b2 o2 rfl
                have hwb8 := HWB8.out
                refine ⟨hown1, ⟨it, ((HRC8.out.later hba).kept hkb hnx)⟩, (HRU8.out.later hba).kept hkb (fun e => (ha _ e).1 rfl), (HSO8.out.later hba (Nat.le_refl _)).kept hkb (fun b o e h => (ha _ h).2 b o e rfl), (HBE8.out.trans (hba.mono HBE8.out.size)).trans (hb1.mono (by omega)), fun q hq => ?_, fun b o e => ⟨(HSB8.out b o e).1, ?_⟩, HNE.out, ?_⟩
                · rcases hat with e | e
                  · exact ha q (by rw [← e]; exact hq)
                  · rw [e] at hq
                    obtain rfl := Option.some.inj hq
                    refine ⟨by omega, fun b o e => ?_⟩
                    have := (HSB8.out b o e).2
                    omega
                · have h1 := (HSB8.out b o e).2
                  have h2 := hkb.size
                  omega
                · have h1 := HSZ8.out
                  have h2 := hkb.size
                  omega
              clear hown1 hb1 hgr hat hba hzz hkb
              go_wp2
              go_roundw
              case rel => exact ⟨m + 1, by omega, by go_num, by rw [HST.out, HMD.out, ← HP2.out]; exact HIN2⟩
              case measure => (simp [intOf]; try omega)
            · have hisf : ifR r.v line it (wordsB line) = false := by simpa using his
              have HMD : Hid (madeR r.v fold line (wordsB line) it = none) := by show _ = _; unfold madeR; rw [if_neg his]
              rw [hisf]
              have hba : Below w8.heap.size w8 (w8.alloc (.cells #[.string pk, .int .i64 pv] 101)) := (Below.refl _ _).alloc (Nat.le_refl _) _
              have HIN2 : Hid (MIn w2 (w8.alloc (.cells #[.string pk, .int .i64 pv] 101)) w2.heap.size wb r line wo (wordsB line).length wcap (some ⟨b2, o2, none⟩) its u6 am) :=
                ⟨HOW8.out.later hba, ⟨it, HRC8.out.later hba⟩, HRU8.out.later hba, HSO8.out.later hba (Nat.le_refl _), HBE8.out.trans (hba.mono HBE8.out.size), HAP.out, fun b o e => ⟨(HSB8.out b o e).1, Nat.lt_of_lt_of_le (HSB8.out b o e).2 hba.size⟩, HNE.out, Nat.lt_of_lt_of_le HSZ8.out hba.size⟩
              clear his hisf hba HPP
              go_wp2
              go_roundw
              case rel => exact ⟨m + 1, by omega, by go_num, by rw [HST.out, HMD.out]; simpa using HIN2⟩
              case measure => (simp [intOf]; try omega)
          · obtain rfl : m = its.length := by omega
            rw [List.take_length, ← HMA.out, ← HSU.out] at HIN
            obtain ⟨it0, hr0⟩ := HIN.out.rcd
            have x1 := hr0.get (j := 1) rfl
            have z1 := hr0.fz 1
            have HOW9 := hide (HIN.out.own.setOther (a := ⟨w2.heap.size, 1, none⟩) (fun e => absurd (show w2.heap.size + 1 ≤ w2.heap.size from (HIN.out.own.lt _ e).1) (by omega)) (.string ⟨#[]⟩))
            have HRC9 : Hid (Bk (wr.setCell ⟨w2.heap.size, 1, none⟩ (.string ⟨#[]⟩)) w2.heap.size [.string line, .string ⟨#[]⟩, .slice wo (wordsB line).length wcap]) := hr0.set (k := 1) (u := .string it0) (.string ⟨#[]⟩) rfl
            have HBE9 := hide (HIN.out.bel.setCell (p := ⟨w2.heap.size, 1, none⟩) (Nat.le_refl _) (.string ⟨#[]⟩))
            clear HIN hr0
            go_wp2
            go_roundw
            case rel => exact ⟨k + 1, by omega, by go_num, HOW9, HRC9, HBE9⟩
            case measure => (simp [intOf]; try omega)
    · obtain rfl : k = rs.length := by omega
      rw [List.take_of_length_le (by rw [List.length_map]; exact Nat.le_refl _)] at HOW
      go_wp2
      go_ret
      exact ⟨_, rfl, HOW.out.base_le (by have := HB2.out.size; omega), HBW.out⟩
end Go.Proofs.YtgeedjlbajmdkaaGreatDoor
