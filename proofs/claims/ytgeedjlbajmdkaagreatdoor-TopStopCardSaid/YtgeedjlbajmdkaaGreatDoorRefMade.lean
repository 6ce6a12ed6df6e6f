/- The reference: what a job makes of a record. -/
import Derived.Test.YtgeedjlbajmdkaaGreatDoorMPairs
import Derived.Test.YtgeedjlbajmdkaaGreatDoorExpr9
import Derived.Test.YtgeedjlbajmdkaaGreatDoorExpr10
import Derived.Test.YtgeedjlbajmdkaaGreatDoorWords2
set_option linter.unusedSimpArgs false
set_option linter.unusedVariables false
namespace Go.Proofs.YtgeedjlbajmdkaaGreatDoor
open Go.RowKit

/-- the inner loop, at one rule -/
structure RIn (w1 wr : World) (B rb : Nat) (r : RuleR) (so : Option Addr) (its : List ByteArray) (v : Value) (l : List Pr) : Prop where
  own : Own 2 encP 101 wr B v l
  rule : Bk wr rb (encRule r)
  sl : Sl 1 encS wr so its
  bel : Below B w1 wr
  apart : ∀ q, v.ownBlock = some q → q ≠ rb ∧ ∀ b o, so = some ⟨b, o, none⟩ → q ≠ b
  so_ : ∀ b o, so = some ⟨b, o, none⟩ → b < wr.heap.size
  size : B ≤ wr.heap.size
theorem RIn.later {w1 w w' : World} {B rb : Nat} {r : RuleR} {so : Option Addr} {its : List ByteArray} {v : Value} {l : List Pr} (h : RIn w1 w B rb r so its v l) (hb : Below w.heap.size w w') : RIn w1 w' B rb r so its v l :=
  ⟨h.own.later hb, h.rule.later hb, h.sl.later hb (Nat.le_refl _), h.bel.trans (hb.mono h.size), h.apart, fun b o e => Nat.lt_of_lt_of_le (h.so_ b o e) hb.size, Nat.le_trans h.size hb.size⟩
theorem RIn.put {w1 W A wn : World} {B rb : Nat} {r : RuleR} {so : Option Addr} {its : List ByteArray} {v v' : Value} {l l' : List Pr} (h : RIn w1 W B rb r so its v l) (hA : Below W.heap.size W A) (ho : Own 2 encP 101 wn B v' l') (hb : Below B A wn) (hg : A.grownBy wn v.ownBlock) (hat : v'.ownBlock = v.ownBlock ∨ v'.ownBlock = some A.heap.size) : RIn w1 wn B rb r so its v' l' := by
  have hk : KeptBut (fun q => v.ownBlock = some q) A wn := KeptBut.of_grown hg fun k e => e
  have hA2 := h.later hA
  have hsz := hk.size
  have hrl := hA2.rule.lt
  refine ⟨ho, hA2.rule.kept hk fun e => (h.apart _ e).1 rfl, hA2.sl.kept hk fun b o e e2 => (h.apart _ e2).2 b o e rfl, hA2.bel.trans hb, fun q e => ?_, fun b o e => Nat.lt_of_lt_of_le (hA2.so_ b o e) hsz, Nat.le_trans hA2.size hsz⟩
  rcases hat with e2 | e2
  · exact h.apart q (e2 ▸ e)
  · rw [e2] at e
    obtain rfl := Option.some.inj e
    exact ⟨by omega, fun b o e3 => by have := hA2.so_ b o e3; omega⟩
theorem cut20_long {s : ByteArray} (h : 20 < s.size) : s.extract 0 20 = cut20 s := by unfold cut20; rw [Nat.min_eq_right (by omega)]
theorem cut20_short {s : ByteArray} (h : ¬ 20 < s.size) : s = cut20 s := by unfold cut20; rw [Nat.min_eq_left (by omega)]; simp
theorem strR_ref (e : ExR) (d : Nat) (line it : ByteArray) (each : Bool) (hl : line.size ≤ 1000) (hi : it.size ≤ 1000) (hw : ∀ x ∈ wordsB line, x.size ≤ 1000) (hws : (wordsB line).length ≤ 1000) (hsh : shE e.tree true each = true) (hn : e.tree.nodes ≤ 30) (w : World) (h : ExAt w d e.tree e.cells) :
    Calls Tryz.prog 63 #[e.agg, .string line, .string it] w fun q w' => q = .returned (.string (strE e.tree line it (wordsB line))) ∧ Below w.heap.size w w' :=
  RefStr_any line it each hl (by omega) (str_small hl hi hw) d e.k e.n e.s e.a e.ao e.cap w h hsh (by have : e.tree.nodes = (ExprV.mk e.k e.n e.s e.a).nodes := rfl; omega)
theorem intR_ref (e : ExR) (d : Nat) (line it : ByteArray) (each : Bool) (hl : line.size ≤ 1000) (hi : it.size ≤ 1000) (hw : ∀ x ∈ wordsB line, x.size ≤ 1000) (hws : (wordsB line).length ≤ 1000) (hsh : shE e.tree false each = true) (hn : e.tree.nodes ≤ 30) (w : World) (h : ExAt w d e.tree e.cells) :
    Calls Tryz.prog 64 #[e.agg, .string line, .string it] w fun q w' => q = .returned (.int .i64 (intE e.tree line it (wordsB line))) ∧ Below w.heap.size w w' :=
  RefInt_any line it each hl (by omega) (str_small hl hi hw) d e.k e.n e.s e.a e.ao e.cap w h hsh (by have : e.tree.nodes = (ExprV.mk e.k e.n e.s e.a).nodes := rfl; omega)
set_option maxRecDepth 100000 in
set_option maxHeartbeats 4000000 in
theorem PairsMade_any (ro : Option Addr) (rc : Nat) (rs : List RuleR) (fold slices : Int) (early : Bool) (line : ByteArray) (d : Nat) (w : World) (hl : rs.length ≤ 1000) (hline : line.size ≤ 500) (hs : Sl 15 encRule w ro rs) (hr : ∀ r ∈ rs, RuleAt w d r) (hok : ∀ r ∈ rs, RuleOk r.v) :
    Calls Tryz.prog 23 #[.agg #[.slice ro rs.length rc, .int .i64 fold, .bool early, .int .i64 slices], .string line] w fun e w' => ∃ v, e = .returned v ∧ Own 2 encP 101 w' w.heap.size v (pairsJ (rs.map RuleR.v) fold line) ∧ Below w.heap.size w w' := by
  obtain ⟨i0, hi0, hz0, hz1, hz2⟩ := info_parts infoPair
  obtain ⟨W1, hW1⟩ : ∃ W, W = w.alloc (.cells #[.slice ro rs.length rc, .int .i64 fold, .bool early, .int .i64 slices] 24) := ⟨_, rfl⟩
  have hb1 : Below w.heap.size w W1 := by rw [hW1]; exact (Below.refl _ _).alloc (Nat.le_refl _) _
  have hbj : Bk W1 w.heap.size [.slice ro rs.length rc, .int .i64 fold, .bool early, .int .i64 slices] := by rw [hW1]; exact Bk.new rfl
  have HR := hide hr
  have HOK := hide hok
  have HS := hide hs
  have HWL := hide (words_line hline)
  have HLI := hide hline
  have HW1 := hide hW1
  have HB1 := hide hb1
  have HBJ := hide hbj
  have HJL := hide hbj.lt
  clear hr hok hs hline hW1 hb1 hbj
  go_enter Tryz.func23, Tryz.ntmps23
  go_upto_region 1 with (fail)
  rw [← HW1.out]
  clear HW1
  go_wp2
  go_loopw [5, 6] (fun v i wr => ∃ k : Nat, k ≤ rs.length ∧ i = .int .i64 k ∧ Hid (Own 2 encP 101 wr W1.heap.size v (pairsJ ((rs.map RuleR.v).take k) fold line)) ∧ Hid (Below W1.heap.size W1 wr)) (fun _ i _ => rs.length - (intOf i).toNat)
  case atStart => exact ⟨0, by omega, by go_num, Own.nil, Below.refl _ _⟩
  case round =>
    obtain ⟨k, hk, rfl, HOW, HBE⟩ := hrel
    have HBW := hide (HB1.out.trans (HBE.out.mono HB1.out.size))
    have j0 := cell_later HBE.out (HBJ.out.get (j := 0) rfl)
    have j1 := cell_later HBE.out (HBJ.out.get (j := 1) rfl)
    by_cases hlt : k < rs.length
    · obtain ⟨b, off, r, rfl, hbw, hlk, hc⟩ := (HS.out.later HBW.out (Nat.le_refl _)).rule hlt
      have HRA := hide (HR.out r (List.mem_of_getElem? hlk))
      have HRO := hide (HOK.out r (List.mem_of_getElem? hlk))
      have HSU := hide (pairsJ_succ fold line (show (rs.map RuleR.v)[k]? = some r.v by rw [List.getElem?_map, hlk]; rfl))
      have HLT : Hid ((pairsJ ((rs.map RuleR.v).take k) fold line).length ≤ 1000000) := by
        have h1 := pairsJ_small ((rs.map RuleR.v).take k) fold line HLI.out
        have h2 : ((rs.map RuleR.v).take k).length ≤ 1000 := by rw [List.length_take, List.length_map]; omega
        have h3 := Nat.mul_le_mul_right 502 h2
        show _ ≤ _
        omega
      generalize pairsJ ((rs.map RuleR.v).take k) fold line = acc at *
      have k0 : wr.cell? ⟨b, off + k * 15, none⟩ = some (.bool r.each) := hc 0 _ rfl
      have k1 := hc 1 _ rfl
      have k2 := hc 2 _ rfl
      have k3 := hc 3 _ rfl
      have k4 := hc 4 _ rfl
      have k5 := hc 5 _ rfl
      have k6 := hc 6 _ rfl
      have k7 := hc 7 _ rfl
      have k8 := hc 8 _ rfl
      have k9 := hc 9 _ rfl
      have k10 := hc 10 _ rfl
      have k11 := hc 11 _ rfl
      have k12 := hc 12 _ rfl
      have k13 := hc 13 _ rfl
      have k14 := hc 14 _ rfl
      have f1 : (0 : Int) ≤ (k : Int) ∧ (k : Int) < (rs.length : Int) := by omega
      obtain ⟨f1, f2⟩ := f1
      clear hlk hc
      go_upto_region 6 with (fail)
      have hbA : Below wr.heap.size wr ((wr.alloc (.cells #[.bool r.each, .int .i64 r.when_, .int .i64 r.cond.k, .int .i64 r.cond.n, .string r.cond.s, .slice r.cond.ao r.cond.a.length r.cond.cap, .string r.txt, .int .i64 r.key.k, .int .i64 r.key.n, .string r.key.s, .slice r.key.ao r.key.a.length r.key.cap, .int .i64 r.val.k, .int .i64 r.val.n, .string r.val.s, .slice r.val.ao r.val.a.length r.val.cap] 69)).alloc (.cells #[.string ⟨#[]⟩] 9)) := ((Below.refl _ _).alloc (Nat.le_refl _) _).alloc (by simp) _
      have hru : Bk ((wr.alloc (.cells #[.bool r.each, .int .i64 r.when_, .int .i64 r.cond.k, .int .i64 r.cond.n, .string r.cond.s, .slice r.cond.ao r.cond.a.length r.cond.cap, .string r.txt, .int .i64 r.key.k, .int .i64 r.key.n, .string r.key.s, .slice r.key.ao r.key.a.length r.key.cap, .int .i64 r.val.k, .int .i64 r.val.n, .string r.val.s, .slice r.val.ao r.val.a.length r.val.cap] 69)).alloc (.cells #[.string ⟨#[]⟩] 9)) wr.heap.size (encRule r) := Bk.alloc (Bk.new rfl) _
      have hlit : Sl 1 encS ((wr.alloc (.cells #[.bool r.each, .int .i64 r.when_, .int .i64 r.cond.k, .int .i64 r.cond.n, .string r.cond.s, .slice r.cond.ao r.cond.a.length r.cond.cap, .string r.txt, .int .i64 r.key.k, .int .i64 r.key.n, .string r.key.s, .slice r.key.ao r.key.a.length r.key.cap, .int .i64 r.val.k, .int .i64 r.val.n, .string r.val.s, .slice r.val.ao r.val.a.length r.val.cap] 69)).alloc (.cells #[.string ⟨#[]⟩] 9)) (some ⟨wr.heap.size + 1, 0, none⟩) [⟨#[]⟩] := Sl.lit encS_len (heap_at (by simp)) rfl
      have hsz2 : ((wr.alloc (.cells #[.bool r.each, .int .i64 r.when_, .int .i64 r.cond.k, .int .i64 r.cond.n, .string r.cond.s, .slice r.cond.ao r.cond.a.length r.cond.cap, .string r.txt, .int .i64 r.key.k, .int .i64 r.key.n, .string r.key.s, .slice r.key.ao r.key.a.length r.key.cap, .int .i64 r.val.k, .int .i64 r.val.n, .string r.val.s, .slice r.val.ao r.val.a.length r.val.cap] 69)).alloc (.cells #[.string ⟨#[]⟩] 9)).heap.size = wr.heap.size + 1 + 1 := by simp
      clear k0 k1 k2 k3 k4 k5 k6 k7 k8 k9 k10 k11 k12 k13 k14
      go_upto_region 7 with (fail)
      have HUB : Hid (∀ q, u5.ownBlock = some q → W1.heap.size ≤ q ∧ q < wr.heap.size) := HOW.out.lt
      have HIN0 : Hid (RIn W1 ((wr.alloc (.cells #[.bool r.each, .int .i64 r.when_, .int .i64 r.cond.k, .int .i64 r.cond.n, .string r.cond.s, .slice r.cond.ao r.cond.a.length r.cond.cap, .string r.txt, .int .i64 r.key.k, .int .i64 r.key.n, .string r.key.s, .slice r.key.ao r.key.a.length r.key.cap, .int .i64 r.val.k, .int .i64 r.val.n, .string r.val.s, .slice r.val.ao r.val.a.length r.val.cap] 69)).alloc (.cells #[.string ⟨#[]⟩] 9)) W1.heap.size wr.heap.size r (some ⟨wr.heap.size + 1, 0, none⟩) [⟨#[]⟩] u5 acc) :=
        ⟨HOW.out.later hbA, hru, hlit, HBE.out.trans (hbA.mono HBE.out.size), fun q e => by
          have := HUB.out q e
          exact ⟨by omega, fun b o e2 => by cases e2; omega⟩, fun b o e => by cases e; omega, Nat.le_trans HBE.out.size hbA.size⟩
      clear hbA hru hlit HOW HBE HBW j0 j1
      generalize (wr.alloc (.cells #[.bool r.each, .int .i64 r.when_, .int .i64 r.cond.k, .int .i64 r.cond.n, .string r.cond.s, .slice r.cond.ao r.cond.a.length r.cond.cap, .string r.txt, .int .i64 r.key.k, .int .i64 r.key.n, .string r.key.s, .slice r.key.ao r.key.a.length r.key.cap, .int .i64 r.val.k, .int .i64 r.val.n, .string r.val.s, .slice r.val.ao r.val.a.length r.val.cap] 69)).alloc (.cells #[.string ⟨#[]⟩] 9) = W6 at *
      obtain ⟨rb, hrb⟩ : ∃ rb, rb = wr.heap.size := ⟨_, rfl⟩
      rw [← hrb] at HIN0 HUB hsz2 ⊢
      clear hrb
      have e0 := HIN0.out.rule.get (j := 0) rfl
      obtain ⟨ec, hec⟩ : ∃ ec, r.each = ec := ⟨_, rfl⟩
      rw [hec] at e0
      have HEC := hide hec
      clear hec
      go_upto_if 27 with (fail)
      go_cut [8] from 28 to 29 (fun v wc => ∃ (so : Option Addr) (its : List ByteArray) (sc : Nat), v = .slice so its.length sc ∧ Hid (itsR r.v (wordsB line) = its) ∧ Hid (RIn W1 wc W1.heap.size rb r so its u5 acc) ∧ Hid (its.length ≤ 501 ∧ ∀ x ∈ its, x.size ≤ 1000))
      case first =>
        rcases Bool.eq_false_or_eq_true ec with he | he
        · have HIT : Hid (itsR r.v (wordsB line) = wordsB line) := by show _ = _; unfold itsR; rw [if_pos (show r.v.each = true from HEC.out.trans he)]
          have HWC := hide (RefWords_any line W6 (by have := HLI.out; omega))
          subst he
          go_wp2_with fail
          refine HWC.out.mono ?_
          rintro e w7 ⟨wv, rfl, ow, b7⟩
          obtain ⟨wo, wc, rfl⟩ := id ow.1
          have HIN1 := HIN0.out.later b7
          have HIN2 : Hid (RIn W1 w7 W1.heap.size rb r wo (wordsB line) u5 acc) := ⟨HIN1.own, HIN1.rule, ow.sl encS_len, HIN1.bel, fun q e => ⟨(HIN1.apart q e).1, fun b o e2 => by subst e2; have h1 := (ow.lt b rfl).1; have h2 := HUB.out q e; omega⟩, fun b o e => by subst e; exact (ow.lt b rfl).2, HIN1.size⟩
          clear ow b7 HWC HIN1
          go_wp2
          go_meet
          exact ⟨_, _, _, rfl, HIT, HIN2, HWL⟩
        · have HIT : Hid (itsR r.v (wordsB line) = [⟨#[]⟩]) := by show _ = _; unfold itsR; rw [if_neg (show ¬ r.v.each = true by rw [show r.v.each = ec from HEC.out, he]; simp)]
          have HIL : Hid (([⟨#[]⟩] : List ByteArray).length ≤ 501 ∧ ∀ x ∈ ([⟨#[]⟩] : List ByteArray), x.size ≤ 1000) := ⟨by simp, fun x hx => by rw [List.mem_singleton.1 hx]; decide⟩
          subst he
          go_wp2
          go_meet
          exact ⟨_, [⟨#[]⟩], _, rfl, HIT, HIN0, HIL⟩
      case rest =>
        obtain ⟨so, its, sc, rfl, HIT, HIN, HIL⟩ := hcut
        clear HIN0 e0 HEC HUB
        have HMA : Hid (pairsR r.v fold line = its.filterMap (madeR r.v fold line (wordsB line))) := by show _ = _; unfold pairsR; rw [HIT.out]
        clear HIT
        go_wp2
        rename_i wr0
        go_loopw [5, 9] (fun v i wi => ∃ m : Nat, m ≤ its.length ∧ i = .int .i64 m ∧ Hid (RIn W1 wi W1.heap.size rb r so its v (acc ++ (its.take m).filterMap (madeR r.v fold line (wordsB line))))) (fun _ i _ => its.length - (intOf i).toNat)
        case atStart => exact ⟨0, by omega, by go_num, by simpa using HIN⟩
        case round =>
          clear HIN
          obtain ⟨m, hm, rfl, HIN⟩ := hrel
          by_cases hlt2 : m < its.length
          · obtain ⟨b2, o2, it, rfl, hbw2, hlk2, c0⟩ := HIN.out.sl.str hlt2
            have HIS := hide (HIL.out.2 it (List.mem_of_getElem? hlk2))
            have HST : Hid (acc ++ (its.take (m + 1)).filterMap (madeR r.v fold line (wordsB line)) = (acc ++ (its.take m).filterMap (madeR r.v fold line (wordsB line))) ++ (madeR r.v fold line (wordsB line) it).toList) := by
              show _ = _
              rw [its_succ (f := madeR r.v fold line (wordsB line)) hlk2, List.append_assoc]
            have HML : Hid ((acc ++ (its.take m).filterMap (madeR r.v fold line (wordsB line))).length ≤ 2000000) := by
              have h1 := List.length_filterMap_le (madeR r.v fold line (wordsB line)) (its.take m)
              have h2 : (its.take m).length ≤ 501 := by rw [List.length_take]; have := HIL.out.1; omega
              have h3 := HLT.out
              show _ ≤ _
              rw [List.length_append]
              omega
            generalize acc ++ (its.take m).filterMap (madeR r.v fold line (wordsB line)) = am at *
            have hil := HIL.out.1
            have f1 : (0 : Int) ≤ (m : Int) ∧ (m : Int) < (its.length : Int) := by omega
            obtain ⟨f1, f2⟩ := f1
            clear hlk2
            have HBW := hide fun (w' : World) (hb : Below wr.heap.size wr w') => HB1.out.trans ((HIN.out.bel.trans (hb.mono HIN.out.size)).mono HB1.out.size)
            have HSC := hide fun (w' : World) (hb : Below wr.heap.size wr w') (h0 : r.when_ ≠ 0) => strR_ref r.cond d line it r.each (by have := HLI.out; omega) HIS.out HWL.out.2 (by have := HWL.out.1; omega) (HRO.out.cond h0).2.2 (HRO.out.cond h0).1 w' (HRA.out.cond.later (HBW.out w' hb) (Nat.le_refl _))
            have HSK := hide fun (w' : World) (hb : Below wr.heap.size wr w') => strR_ref r.key d line it r.each (by have := HLI.out; omega) HIS.out HWL.out.2 (by have := HWL.out.1; omega) HRO.out.key.2.2 HRO.out.key.1 w' (HRA.out.key.later (HBW.out w' hb) (Nat.le_refl _))
            have HSV := hide fun (w' : World) (hb : Below wr.heap.size wr w') => intR_ref r.val d line it r.each (by have := HLI.out; omega) HIS.out HWL.out.2 (by have := HWL.out.1; omega) HRO.out.val.2.2 HRO.out.val.1 w' (HRA.out.val.later (HBW.out w' hb) (Nat.le_refl _))
            unfold ExR.agg at HSC HSK HSV
            have w1' := HIN.out.rule.get (j := 1) rfl
            by_cases h0 : r.when_ = 0
            · have HIF : Hid (ifR r.v line it (wordsB line) = true) := by show _ = _; unfold ifR; simp [RuleR.v, h0]
              have g1 : decide ((0 : Int) < r.when_) = false := by rw [h0]; rfl
              clear h0 HSC
              have HPR : Hid (madeR r.v fold line (wordsB line) it = some (cut20 (strE r.key.tree line it (wordsB line)), first fold (intE r.val.tree line it (wordsB line)))) := by show _ = _; unfold madeR; rw [if_pos HIF.out]; rfl
              obtain ⟨ks, hks⟩ : ∃ ks, strE r.key.tree line it (wordsB line) = ks := ⟨_, rfl⟩
              obtain ⟨vi, hvi⟩ : ∃ vi, intE r.val.tree line it (wordsB line) = vi := ⟨_, rfl⟩
              rw [hks, hvi] at HPR
              rw [hks] at HSK
              rw [hvi] at HSV
              clear hks hvi
              go_upto_region 15 with (fail)
              have c0' := cell_regrown c0
              have k7 := cell_regrown (HIN.out.rule.get (j := 7) rfl)
              have k8 := cell_regrown (HIN.out.rule.get (j := 8) rfl)
              have k9 := cell_regrown (HIN.out.rule.get (j := 9) rfl)
              have k10 := cell_regrown (HIN.out.rule.get (j := 10) rfl)
              refine wp_region_quiet_below (by kernel_rfl) (by kernel_rfl) ?_
              repeat (go_big_quiet_step (first | (go_at_call 63; exact Calls.regrown_of (HSK.out _ (below_regrown _ _ _)))))
              refine wpQuiet_nil ?_
              intro _ hw'
              obtain ⟨⟨dq, osq⟩, hw''⟩ := hw'
              subst hw''
              have hbg := below_regrown wr dq osq
              replace HIN := hide (HIN.out.later hbg)
              replace c0 := cell_later hbg c0
              replace HSV := hide fun (w' : World) (hb : Below (Go.Sort.grow (redrawn wr dq) osq).heap.size (Go.Sort.grow (redrawn wr dq) osq) w') => HSV.out w' (hbg.trans (hb.mono hbg.size))
              have HJ1 := hide fun (w' : World) (hb : Below (Go.Sort.grow (redrawn wr dq) osq).heap.size (Go.Sort.grow (redrawn wr dq) osq) w') => (HIN.out.bel.trans (hb.mono HIN.out.size) : Below W1.heap.size W1 w')
              clear c0' k7 k8 k9 k10 hbg HSK HBW
              try clear w1'
              generalize Go.Sort.grow (redrawn wr dq) osq = W9 at *
              obtain ⟨cp, hcp⟩ : ∃ cp, decide (20 < ks.size) = cp := ⟨_, rfl⟩
              have hcp2 : decide ((20 : Int) < (ks.size : Int)) = cp := by rw [← hcp]; exact decide_eq_decide.2 (by omega)
              have HCP := hide hcp
              clear hcp
              go_upto_if 65 with (fail)
              go_cut [11] from 66 to 67 (fun v wc => v = .string (cut20 ks) ∧ W9 = wc)
              case first =>
                rcases Bool.eq_false_or_eq_true cp with he | he
                · have hks : 20 < ks.size := by have := HCP.out; rw [he] at this; simpa using this
                  have HC20 := hide (cut20_long hks)
                  have f20 : (20 : Int) ≤ (ks.size : Int) := by omega
                  subst he
                  go_wp2
                  go_meet
                  exact ⟨by rw [← HC20.out], rfl⟩
                · have hks : ¬ 20 < ks.size := by have := HCP.out; rw [he] at this; simpa using this
                  have HC20 := hide (cut20_short hks)
                  subst he
                  clear hks
                  go_wp2
                  go_meet
                  exact ⟨by rw [← HC20.out], rfl⟩
              case rest =>
              obtain ⟨rfl, rfl⟩ := hcut
              clear hcp2 HCP
              go_upto_region 18 with (fail)
              have c0' := cell_regrown c0
              have k11 := cell_regrown (HIN.out.rule.get (j := 11) rfl)
              have k12 := cell_regrown (HIN.out.rule.get (j := 12) rfl)
              have k13 := cell_regrown (HIN.out.rule.get (j := 13) rfl)
              have k14 := cell_regrown (HIN.out.rule.get (j := 14) rfl)
              refine wp_region_quiet_below (by kernel_rfl) (by kernel_rfl) ?_
              repeat (go_big_quiet_step (first | (go_at_call 64; exact Calls.regrown_of (HSV.out _ (below_regrown _ _ _)))))
              refine wpQuiet_nil ?_
              intro _ hw'
              obtain ⟨⟨dq, osq⟩, hw''⟩ := hw'
              subst hw''
              have hbg := below_regrown W9 dq osq
              replace HIN := hide (HIN.out.later hbg)
              have j1 := cell_later (HJ1.out _ hbg) (HBJ.out.get (j := 1) rfl)
              clear c0' c0 k11 k12 k13 k14 hbg HSV HJ1
              generalize Go.Sort.grow (redrawn W9 dq) osq = W8 at *
              obtain ⟨f4, hf4⟩ : ∃ f4, (fold == 4) = f4 := ⟨_, rfl⟩
              have HF4 := hide hf4
              go_upto_if 78 with (fail)
              go_cut [12] (fun v wc => v = .int .i64 (first fold vi) ∧ W8 = wc)
              case first =>
                rcases Bool.eq_false_or_eq_true f4 with he | he
                · have HFI : Hid (first fold vi = 1) := by show _ = _; unfold first; rw [if_pos (by have := HF4.out; rw [he] at this; simpa using this)]
                  subst he
                  go_wp2
                  go_meet
                  exact ⟨by rw [HFI.out], rfl⟩
                · have HFI : Hid (first fold vi = vi) := by show _ = _; unfold first; rw [if_neg (by have := HF4.out; rw [he] at this; simpa using this)]
                  subst he
                  go_wp2
                  go_meet
                  exact ⟨by rw [HFI.out], rfl⟩
              case rest =>
              obtain ⟨rfl, rfl⟩ := hcut
              generalize cut20 ks = k20 at *
              generalize first fold vi = fv at *
              have HOW := hide (HIN.out.own.alloc (.cells #[.string k20, .int .i64 fv] 101))
              obtain ⟨ua, uc, hu5⟩ := id HOW.out.1
              subst hu5
              have HSZ : Hid (W1.heap.size ≤ (W8.alloc (.cells #[.string k20, .int .i64 fv] 101)).heap.size) := by have := HIN.out.size; show _ ≤ _; simp; omega
              have HLEN : Hid (am.length + 1 ≤ 1000000000) := by have := HML.out; show _ ≤ _; omega
              go_wp2_with (at_builtin; refine wpList_append_one encP_len _ _ 53 i0 _ rfl rfl Tryz.underlying53 hi0 hz0 hz1 hz2 rfl (by decide) (by decide) HOW.out (Below.refl _ _) HSZ.out HLEN.out rfl (k20, fv) ⟨W8.heap.size, 0, none⟩ 1 rfl (news_at rfl rfl) (one_pair _) ?_)
              intro v' w1 hown1 hb1 hgr hat
              have HIN2 := hide (HIN.out.put ((Below.refl _ _).alloc (Nat.le_refl _) _) hown1 hb1 hgr (hat.imp id fun h => h.trans (by simp)))
              clear hown1 hb1 hgr hat HOW
              go_wp2
              go_roundw
              case rel => exact ⟨m + 1, by omega, by go_num, by rw [HST.out, HPR.out]; exact HIN2⟩
              case measure => (simp [intOf]; try omega)
            · have g1 : decide ((0 : Int) < r.when_) = true := by have := HRO.out.whn; simp only [RuleR.v] at this; exact decide_eq_true (by omega)
              have HC := hide fun w' hb => HSC.out w' hb h0
              obtain ⟨sx, hso⟩ : ∃ sx, strE r.cond.tree line it (wordsB line) = sx := ⟨_, rfl⟩
              rw [hso] at HC
              have HIF0 : Hid (ifR r.v line it (wordsB line) = (decide (sx = r.txt) == decide (r.when_ = 1))) := by
                show _ = _
                unfold ifR
                rw [show (r.v.when_ == 0) = false from beq_eq_false_iff_ne.2 h0, show strE r.v.cond line it (wordsB line) = sx from hso]
                rfl
              clear hso HSC h0
              go_upto_region 13 with (fail)
              have c0' := cell_regrown c0
              have k2 := cell_regrown (HIN.out.rule.get (j := 2) rfl)
              have k3 := cell_regrown (HIN.out.rule.get (j := 3) rfl)
              have k4 := cell_regrown (HIN.out.rule.get (j := 4) rfl)
              have k5 := cell_regrown (HIN.out.rule.get (j := 5) rfl)
              have k6 := cell_regrown (HIN.out.rule.get (j := 6) rfl)
              by_cases his : sx = r.txt
              · have gi : (sx.toList == r.txt.toList) = true := by rw [his]; exact beqq _
                refine wp_region_quiet_below (by kernel_rfl) (by kernel_rfl) ?_
                repeat (go_big_quiet_step (first | (go_at_call 63; exact Calls.regrown_of (HC.out _ (below_regrown _ _ _)))))
                refine wpQuiet_nil ?_
                intro _ hw'
                obtain ⟨⟨dq, osq⟩, hw''⟩ := hw'
                subst hw''
                have hbg := below_regrown wr dq osq
                replace HIN := hide (HIN.out.later hbg)
                replace c0 := cell_later hbg c0
                replace HSV := hide fun (w' : World) (hb : Below (Go.Sort.grow (redrawn wr dq) osq).heap.size (Go.Sort.grow (redrawn wr dq) osq) w') => HSV.out w' (hbg.trans (hb.mono hbg.size))
                replace HSK := hide fun (w' : World) (hb : Below (Go.Sort.grow (redrawn wr dq) osq).heap.size (Go.Sort.grow (redrawn wr dq) osq) w') => HSK.out w' (hbg.trans (hb.mono hbg.size))
                replace HBW := hide fun (w' : World) (hb : Below (Go.Sort.grow (redrawn wr dq) osq).heap.size (Go.Sort.grow (redrawn wr dq) osq) w') => HBW.out w' (hbg.trans (hb.mono hbg.size))
                clear c0' k2 k3 k4 k5 k6 hbg HC w1'
                rename_i wrq
                generalize Go.Sort.grow (redrawn wr dq) osq = wr at *
                have w1' := HIN.out.rule.get (j := 1) rfl
                by_cases hon : r.when_ = 1
                · have go1 : (r.when_ == 1) = true := by simpa using hon
                  have HIF : Hid (ifR r.v line it (wordsB line) = true) := by show _ = _; rw [HIF0.out]; simp [his, hon]
                  clear his hon HIF0
                  have HPR : Hid (madeR r.v fold line (wordsB line) it = some (cut20 (strE r.key.tree line it (wordsB line)), first fold (intE r.val.tree line it (wordsB line)))) := by show _ = _; unfold madeR; rw [if_pos HIF.out]; rfl
                  obtain ⟨ks, hks⟩ : ∃ ks, strE r.key.tree line it (wordsB line) = ks := ⟨_, rfl⟩
                  obtain ⟨vi, hvi⟩ : ∃ vi, intE r.val.tree line it (wordsB line) = vi := ⟨_, rfl⟩
                  rw [hks, hvi] at HPR
                  rw [hks] at HSK
                  rw [hvi] at HSV
                  clear hks hvi
                  go_upto_region 15 with (fail)
                  have c0' := cell_regrown c0
                  have k7 := cell_regrown (HIN.out.rule.get (j := 7) rfl)
                  have k8 := cell_regrown (HIN.out.rule.get (j := 8) rfl)
                  have k9 := cell_regrown (HIN.out.rule.get (j := 9) rfl)
                  have k10 := cell_regrown (HIN.out.rule.get (j := 10) rfl)
                  refine wp_region_quiet_below (by kernel_rfl) (by kernel_rfl) ?_
                  repeat (go_big_quiet_step (first | (go_at_call 63; exact Calls.regrown_of (HSK.out _ (below_regrown _ _ _)))))
                  refine wpQuiet_nil ?_
                  intro _ hw'
                  obtain ⟨⟨dq, osq⟩, hw''⟩ := hw'
                  subst hw''
                  have hbg := below_regrown wr dq osq
                  replace HIN := hide (HIN.out.later hbg)
                  replace c0 := cell_later hbg c0
                  replace HSV := hide fun (w' : World) (hb : Below (Go.Sort.grow (redrawn wr dq) osq).heap.size (Go.Sort.grow (redrawn wr dq) osq) w') => HSV.out w' (hbg.trans (hb.mono hbg.size))
                  have HJ1 := hide fun (w' : World) (hb : Below (Go.Sort.grow (redrawn wr dq) osq).heap.size (Go.Sort.grow (redrawn wr dq) osq) w') => (HIN.out.bel.trans (hb.mono HIN.out.size) : Below W1.heap.size W1 w')
                  clear c0' k7 k8 k9 k10 hbg HSK HBW
                  try clear w1'
                  generalize Go.Sort.grow (redrawn wr dq) osq = W9 at *
                  obtain ⟨cp, hcp⟩ : ∃ cp, decide (20 < ks.size) = cp := ⟨_, rfl⟩
                  have hcp2 : decide ((20 : Int) < (ks.size : Int)) = cp := by rw [← hcp]; exact decide_eq_decide.2 (by omega)
                  have HCP := hide hcp
                  clear hcp
                  go_upto_if 65 with (fail)
                  go_cut [11] from 66 to 67 (fun v wc => v = .string (cut20 ks) ∧ W9 = wc)
                  case first =>
                    rcases Bool.eq_false_or_eq_true cp with he | he
                    · have hks : 20 < ks.size := by have := HCP.out; rw [he] at this; simpa using this
                      have HC20 := hide (cut20_long hks)
                      have f20 : (20 : Int) ≤ (ks.size : Int) := by omega
                      subst he
                      go_wp2
                      go_meet
                      exact ⟨by rw [← HC20.out], rfl⟩
                    · have hks : ¬ 20 < ks.size := by have := HCP.out; rw [he] at this; simpa using this
                      have HC20 := hide (cut20_short hks)
                      subst he
                      clear hks
                      go_wp2
                      go_meet
                      exact ⟨by rw [← HC20.out], rfl⟩
                  case rest =>
                  obtain ⟨rfl, rfl⟩ := hcut
                  clear hcp2 HCP
                  go_upto_region 18 with (fail)
                  have c0' := cell_regrown c0
                  have k11 := cell_regrown (HIN.out.rule.get (j := 11) rfl)
                  have k12 := cell_regrown (HIN.out.rule.get (j := 12) rfl)
                  have k13 := cell_regrown (HIN.out.rule.get (j := 13) rfl)
                  have k14 := cell_regrown (HIN.out.rule.get (j := 14) rfl)
                  refine wp_region_quiet_below (by kernel_rfl) (by kernel_rfl) ?_
                  repeat (go_big_quiet_step (first | (go_at_call 64; exact Calls.regrown_of (HSV.out _ (below_regrown _ _ _)))))
                  refine wpQuiet_nil ?_
                  intro _ hw'
                  obtain ⟨⟨dq, osq⟩, hw''⟩ := hw'
                  subst hw''
                  have hbg := below_regrown W9 dq osq
                  replace HIN := hide (HIN.out.later hbg)
                  have j1 := cell_later (HJ1.out _ hbg) (HBJ.out.get (j := 1) rfl)
                  clear c0' c0 k11 k12 k13 k14 hbg HSV HJ1
                  generalize Go.Sort.grow (redrawn W9 dq) osq = W8 at *
                  obtain ⟨f4, hf4⟩ : ∃ f4, (fold == 4) = f4 := ⟨_, rfl⟩
                  have HF4 := hide hf4
                  go_upto_if 78 with (fail)
                  go_cut [12] (fun v wc => v = .int .i64 (first fold vi) ∧ W8 = wc)
                  case first =>
                    rcases Bool.eq_false_or_eq_true f4 with he | he
                    · have HFI : Hid (first fold vi = 1) := by show _ = _; unfold first; rw [if_pos (by have := HF4.out; rw [he] at this; simpa using this)]
                      subst he
                      go_wp2
                      go_meet
                      exact ⟨by rw [HFI.out], rfl⟩
                    · have HFI : Hid (first fold vi = vi) := by show _ = _; unfold first; rw [if_neg (by have := HF4.out; rw [he] at this; simpa using this)]
                      subst he
                      go_wp2
                      go_meet
                      exact ⟨by rw [HFI.out], rfl⟩
                  case rest =>
                  obtain ⟨rfl, rfl⟩ := hcut
                  generalize cut20 ks = k20 at *
                  generalize first fold vi = fv at *
                  have HOW := hide (HIN.out.own.alloc (.cells #[.string k20, .int .i64 fv] 101))
                  obtain ⟨ua, uc, hu5⟩ := id HOW.out.1
                  subst hu5
                  have HSZ : Hid (W1.heap.size ≤ (W8.alloc (.cells #[.string k20, .int .i64 fv] 101)).heap.size) := by have := HIN.out.size; show _ ≤ _; simp; omega
                  have HLEN : Hid (am.length + 1 ≤ 1000000000) := by have := HML.out; show _ ≤ _; omega
                  go_wp2_with (at_builtin; refine wpList_append_one encP_len _ _ 53 i0 _ rfl rfl Tryz.underlying53 hi0 hz0 hz1 hz2 rfl (by decide) (by decide) HOW.out (Below.refl _ _) HSZ.out HLEN.out rfl (k20, fv) ⟨W8.heap.size, 0, none⟩ 1 rfl (news_at rfl rfl) (one_pair _) ?_)
                  intro v' w1 hown1 hb1 hgr hat
                  have HIN2 := hide (HIN.out.put ((Below.refl _ _).alloc (Nat.le_refl _) _) hown1 hb1 hgr (hat.imp id fun h => h.trans (by simp)))
                  clear hown1 hb1 hgr hat HOW
                  go_wp2
                  go_roundw
                  case rel => exact ⟨m + 1, by omega, by go_num, by rw [HST.out, HPR.out]; exact HIN2⟩
                  case measure => (simp [intOf]; try omega)
                · have go1 : (r.when_ == 1) = false := by simpa using hon
                  have HIF : Hid (ifR r.v line it (wordsB line) = false) := by show _ = _; rw [HIF0.out]; simp [his, hon]
                  clear his hon HIF0
                  have HMN : Hid (madeR r.v fold line (wordsB line) it = none) := by show _ = _; unfold madeR; rw [if_neg (by rw [HIF.out]; simp)]
                  clear HSK HSV HBW
                  go_wp2
                  go_roundw
                  case rel => exact ⟨m + 1, by omega, by go_num, by rw [HST.out, HMN.out]; simpa using HIN⟩
                  case measure => (simp [intOf]; try omega)
              · have gi : (sx.toList == r.txt.toList) = false := bneq his
                refine wp_region_quiet_below (by kernel_rfl) (by kernel_rfl) ?_
                repeat (go_big_quiet_step (first | (go_at_call 63; exact Calls.regrown_of (HC.out _ (below_regrown _ _ _)))))
                refine wpQuiet_nil ?_
                intro _ hw'
                obtain ⟨⟨dq, osq⟩, hw''⟩ := hw'
                subst hw''
                have hbg := below_regrown wr dq osq
                replace HIN := hide (HIN.out.later hbg)
                replace c0 := cell_later hbg c0
                replace HSV := hide fun (w' : World) (hb : Below (Go.Sort.grow (redrawn wr dq) osq).heap.size (Go.Sort.grow (redrawn wr dq) osq) w') => HSV.out w' (hbg.trans (hb.mono hbg.size))
                replace HSK := hide fun (w' : World) (hb : Below (Go.Sort.grow (redrawn wr dq) osq).heap.size (Go.Sort.grow (redrawn wr dq) osq) w') => HSK.out w' (hbg.trans (hb.mono hbg.size))
                replace HBW := hide fun (w' : World) (hb : Below (Go.Sort.grow (redrawn wr dq) osq).heap.size (Go.Sort.grow (redrawn wr dq) osq) w') => HBW.out w' (hbg.trans (hb.mono hbg.size))
                clear c0' k2 k3 k4 k5 k6 hbg HC w1'
                rename_i wrq
                generalize Go.Sort.grow (redrawn wr dq) osq = wr at *
                have w1' := HIN.out.rule.get (j := 1) rfl
                by_cases hon : r.when_ = 1
                · have go1 : (r.when_ == 1) = true := by simpa using hon
                  have HIF : Hid (ifR r.v line it (wordsB line) = false) := by show _ = _; rw [HIF0.out]; simp [his, hon]
                  clear his hon HIF0
                  have HMN : Hid (madeR r.v fold line (wordsB line) it = none) := by show _ = _; unfold madeR; rw [if_neg (by rw [HIF.out]; simp)]
                  clear HSK HSV HBW
                  go_wp2
                  go_roundw
                  case rel => exact ⟨m + 1, by omega, by go_num, by rw [HST.out, HMN.out]; simpa using HIN⟩
                  case measure => (simp [intOf]; try omega)
                · have go1 : (r.when_ == 1) = false := by simpa using hon
                  have HIF : Hid (ifR r.v line it (wordsB line) = true) := by show _ = _; rw [HIF0.out]; simp [his, hon]
                  clear his hon HIF0
                  have HPR : Hid (madeR r.v fold line (wordsB line) it = some (cut20 (strE r.key.tree line it (wordsB line)), first fold (intE r.val.tree line it (wordsB line)))) := by show _ = _; unfold madeR; rw [if_pos HIF.out]; rfl
                  obtain ⟨ks, hks⟩ : ∃ ks, strE r.key.tree line it (wordsB line) = ks := ⟨_, rfl⟩
                  obtain ⟨vi, hvi⟩ : ∃ vi, intE r.val.tree line it (wordsB line) = vi := ⟨_, rfl⟩
                  rw [hks, hvi] at HPR
                  rw [hks] at HSK
                  rw [hvi] at HSV
                  clear hks hvi
                  go_upto_region 15 with (fail)
                  have c0' := cell_regrown c0
                  have k7 := cell_regrown (HIN.out.rule.get (j := 7) rfl)
                  have k8 := cell_regrown (HIN.out.rule.get (j := 8) rfl)
                  have k9 := cell_regrown (HIN.out.rule.get (j := 9) rfl)
                  have k10 := cell_regrown (HIN.out.rule.get (j := 10) rfl)
                  refine wp_region_quiet_below (by kernel_rfl) (by kernel_rfl) ?_
                  repeat (go_big_quiet_step (first | (go_at_call 63; exact Calls.regrown_of (HSK.out _ (below_regrown _ _ _)))))
                  refine wpQuiet_nil ?_
                  intro _ hw'
                  obtain ⟨⟨dq, osq⟩, hw''⟩ := hw'
                  subst hw''
                  have hbg := below_regrown wr dq osq
                  replace HIN := hide (HIN.out.later hbg)
                  replace c0 := cell_later hbg c0
                  replace HSV := hide fun (w' : World) (hb : Below (Go.Sort.grow (redrawn wr dq) osq).heap.size (Go.Sort.grow (redrawn wr dq) osq) w') => HSV.out w' (hbg.trans (hb.mono hbg.size))
                  have HJ1 := hide fun (w' : World) (hb : Below (Go.Sort.grow (redrawn wr dq) osq).heap.size (Go.Sort.grow (redrawn wr dq) osq) w') => (HIN.out.bel.trans (hb.mono HIN.out.size) : Below W1.heap.size W1 w')
                  clear c0' k7 k8 k9 k10 hbg HSK HBW
                  try clear w1'
                  generalize Go.Sort.grow (redrawn wr dq) osq = W9 at *
                  obtain ⟨cp, hcp⟩ : ∃ cp, decide (20 < ks.size) = cp := ⟨_, rfl⟩
                  have hcp2 : decide ((20 : Int) < (ks.size : Int)) = cp := by rw [← hcp]; exact decide_eq_decide.2 (by omega)
                  have HCP := hide hcp
                  clear hcp
                  go_upto_if 65 with (fail)
                  go_cut [11] from 66 to 67 (fun v wc => v = .string (cut20 ks) ∧ W9 = wc)
                  case first =>
                    rcases Bool.eq_false_or_eq_true cp with he | he
                    · have hks : 20 < ks.size := by have := HCP.out; rw [he] at this; simpa using this
                      have HC20 := hide (cut20_long hks)
                      have f20 : (20 : Int) ≤ (ks.size : Int) := by omega
                      subst he
                      go_wp2
                      go_meet
                      exact ⟨by rw [← HC20.out], rfl⟩
                    · have hks : ¬ 20 < ks.size := by have := HCP.out; rw [he] at this; simpa using this
                      have HC20 := hide (cut20_short hks)
                      subst he
                      clear hks
                      go_wp2
                      go_meet
                      exact ⟨by rw [← HC20.out], rfl⟩
                  case rest =>
                  obtain ⟨rfl, rfl⟩ := hcut
                  clear hcp2 HCP
                  go_upto_region 18 with (fail)
                  have c0' := cell_regrown c0
                  have k11 := cell_regrown (HIN.out.rule.get (j := 11) rfl)
                  have k12 := cell_regrown (HIN.out.rule.get (j := 12) rfl)
                  have k13 := cell_regrown (HIN.out.rule.get (j := 13) rfl)
                  have k14 := cell_regrown (HIN.out.rule.get (j := 14) rfl)
                  refine wp_region_quiet_below (by kernel_rfl) (by kernel_rfl) ?_
                  repeat (go_big_quiet_step (first | (go_at_call 64; exact Calls.regrown_of (HSV.out _ (below_regrown _ _ _)))))
                  refine wpQuiet_nil ?_
                  intro _ hw'
                  obtain ⟨⟨dq, osq⟩, hw''⟩ := hw'
                  subst hw''
                  have hbg := below_regrown W9 dq osq
                  replace HIN := hide (HIN.out.later hbg)
                  have j1 := cell_later (HJ1.out _ hbg) (HBJ.out.get (j := 1) rfl)
                  clear c0' c0 k11 k12 k13 k14 hbg HSV HJ1
                  generalize Go.Sort.grow (redrawn W9 dq) osq = W8 at *
                  obtain ⟨f4, hf4⟩ : ∃ f4, (fold == 4) = f4 := ⟨_, rfl⟩
                  have HF4 := hide hf4
                  go_upto_if 78 with (fail)
                  go_cut [12] (fun v wc => v = .int .i64 (first fold vi) ∧ W8 = wc)
                  case first =>
                    rcases Bool.eq_false_or_eq_true f4 with he | he
                    · have HFI : Hid (first fold vi = 1) := by show _ = _; unfold first; rw [if_pos (by have := HF4.out; rw [he] at this; simpa using this)]
                      subst he
                      go_wp2
                      go_meet
                      exact ⟨by rw [HFI.out], rfl⟩
                    · have HFI : Hid (first fold vi = vi) := by show _ = _; unfold first; rw [if_neg (by have := HF4.out; rw [he] at this; simpa using this)]
                      subst he
                      go_wp2
                      go_meet
                      exact ⟨by rw [HFI.out], rfl⟩
                  case rest =>
                  obtain ⟨rfl, rfl⟩ := hcut
                  generalize cut20 ks = k20 at *
                  generalize first fold vi = fv at *
                  have HOW := hide (HIN.out.own.alloc (.cells #[.string k20, .int .i64 fv] 101))
                  obtain ⟨ua, uc, hu5⟩ := id HOW.out.1
                  subst hu5
                  have HSZ : Hid (W1.heap.size ≤ (W8.alloc (.cells #[.string k20, .int .i64 fv] 101)).heap.size) := by have := HIN.out.size; show _ ≤ _; simp; omega
                  have HLEN : Hid (am.length + 1 ≤ 1000000000) := by have := HML.out; show _ ≤ _; omega
                  go_wp2_with (at_builtin; refine wpList_append_one encP_len _ _ 53 i0 _ rfl rfl Tryz.underlying53 hi0 hz0 hz1 hz2 rfl (by decide) (by decide) HOW.out (Below.refl _ _) HSZ.out HLEN.out rfl (k20, fv) ⟨W8.heap.size, 0, none⟩ 1 rfl (news_at rfl rfl) (one_pair _) ?_)
                  intro v' w1 hown1 hb1 hgr hat
                  have HIN2 := hide (HIN.out.put ((Below.refl _ _).alloc (Nat.le_refl _) _) hown1 hb1 hgr (hat.imp id fun h => h.trans (by simp)))
                  clear hown1 hb1 hgr hat HOW
                  go_wp2
                  go_roundw
                  case rel => exact ⟨m + 1, by omega, by go_num, by rw [HST.out, HPR.out]; exact HIN2⟩
                  case measure => (simp [intOf]; try omega)
          · obtain rfl : m = its.length := by omega
            rw [List.take_length, ← HMA.out, ← HSU.out] at HIN
            go_wp2
            go_roundw
            case rel => exact ⟨k + 1, by omega, by go_num, HIN.out.own, HIN.out.bel⟩
            case measure => (simp [intOf]; try omega)
    · obtain rfl : k = rs.length := by omega
      rw [List.take_of_length_le (by rw [List.length_map]; exact Nat.le_refl _)] at HOW
      go_wp2
      go_ret
      exact ⟨_, rfl, HOW.out.base_le HB1.out.size, HBW.out⟩
end Go.Proofs.YtgeedjlbajmdkaaGreatDoor
