/- The reference: a text as a job: a round of the loop on its lines. -/
import Derived.Test.YtgeedjlbajmdkaaGreatDoorLexE2
import Derived.Test.YtgeedjlbajmdkaaGreatDoorErr
set_option linter.unusedSimpArgs false
set_option linter.unusedVariables false
namespace Go.Proofs.YtgeedjlbajmdkaaGreatDoor
open Go.RowKit

noncomputable def joLine : Code := ((Tryz.f14.body.bind (blkAt 3)).getD .skip)
/-- what lies there while a job is read -/
structure JB (w wr : World) (jb : Nat) (e : List Value) : Prop where
  bk : Bk wr jb e
  rb : Bk wr w.heap.size [.slice none 0 0, .int .i64 0, .bool false, .int .i64 0]
  k : Below w.heap.size w wr
  lt : w.heap.size < jb
theorem JB.kept {w wr w' : World} {jb : Nat} {e : List Value} {T : Nat → Prop} (h : JB w wr jb e) (k : KeptBut T wr w') (hT : ∀ q, T q → jb < q) : JB w w' jb e :=
  ⟨h.bk.kept k fun q => by have := hT _ q; omega, h.rb.kept k fun q => by have := hT _ q; have := h.lt; omega,
    h.k.trans (k.below (fun q hq => by have := hT q hq; have := h.lt; omega) h.k.size), h.lt⟩
theorem JB.later {w wr w' : World} {jb : Nat} {e : List Value} (h : JB w wr jb e) (hb : Below wr.heap.size wr w') : JB w w' jb e :=
  h.kept (KeptBut.of_below (S := fun _ => False) hb (Nat.le_refl _)) fun _ q => q.elim
theorem JB.setJ {w wr : World} {jb : Nat} {e : List Value} (h : JB w wr jb e) (j : Nat) (v : Value) (hj : j < e.length) : JB w (wr.setCell ⟨jb, j, none⟩ v) jb (e.set j v) :=
  ⟨h.bk.set (k := j) v (List.getElem?_eq_getElem hj), Bk.setO h.rb (p := ⟨jb, j, none⟩) (by have := h.lt; simp; omega) v, h.k.setCell (p := ⟨jb, j, none⟩) (Nat.le_of_lt h.lt) v, h.lt⟩
set_option maxRecDepth 100000 in
set_option maxHeartbeats 8000000 in
theorem JobOf_line {w wr : World} {jb B0 : Nat} {ea : Option Addr} {ec : Nat} {l : List RuleR} {fo sl : Int} {eb : Bool} {R L M : List UInt8} (hJ : JB w wr jb [.slice ea l.length ec, .int .i64 fo, .bool eb, .int .i64 sl]) (hRI : RulesIn wr B0 (.slice ea l.length ec) l) (hZ : B0 ≤ wr.heap.size) (hB0 : jb < B0)
    (hL : (cutAt 10 R).1 = L) (hM : (cutAt 10 R).2.1 = M) (hR8 : R.length ≤ 800) (hl8 : l.length ≤ 800) (hL8 : L.length ≤ 800)
    (u0 u1 u3 u4 u5 u7 u9 u10 u11 u12 u13 u14 u15 u16 u17 u18 u19 u20 u21 u22 u23 u24 u25 u26 u27 u28 u29 u30 u31 u32 u33 u34 u35 u36 u37 u38 u39 u40 u41 u42 u43 u44 u45 u46 u47 u48 u49 u50 u51 u52 u53 u54 u55 u56 u57 u58 u59 u60 u61 u62 u63 u64 u65 u66 u67 u68 u69 u70 u71 u72 u73 u74 u75 u76 u77 u78 u79 u80 u81 u82 u83 u84 u85 u86 u87 u88 u89 u90 u91 u92 u93 u94 u95 u96 u97 u98 u99 u100 u101 u102 u103 u104 u105 u106 u107 u108 u109 u110 u111 u112 u113 u114 u115 u116 u117 u118 u119 u120 u121 u122 u123 u124 u125 u126 u127 u128 u129 u130 u131 u132 u133 u134 u135 u136 u137 u138 u139 u140 u141 u142 u143 u144 u145 u146 u147 u148 u149 u150 u151 u152 u153 u154 u155 u156 u157 u158 u159 u160 u161 u162 u163 u164 u165 u166 u167 u168 u169 u170 u171 u172 u173 u174 u175 u176 u177 u178 : Value) {Q : Exit → Act → World → Prop}
    (hN : ∀ (v14 v15 v16 v17 v18 v91 v92 v93 v94 v95 v96 v97 v98 v99 v100 v101 v102 v103 v104 v105 v106 v107 v108 v109 v110 v111 v112 v113 v114 v115 v116 v117 v118 v119 v120 v121 v122 v123 v124 v125 v126 v127 v128 v129 v130 v131 v132 v133 v134 v135 v136 v137 v138 v139 v140 v141 v142 v143 v144 v145 v146 v147 v148 v149 v150 v151 v152 v153 v154 v155 v156 v157 v158 v159 v160 : Value) (w' : World), (∃ (r : RuleR) (na : Option Addr) (nc : Nat), JB w w' jb [.slice na (l.length + 1) nc, .int .i64 fo, .bool eb, .int .i64 sl] ∧ RulesIn w' B0 (.slice na (l.length + 1) nc) (l ++ [r]) ∧ lineR L = some r.v ∧ (r.cond.tree.nodes ≤ 2000000 ∧ r.key.tree.nodes ≤ 2000000 ∧ r.val.tree.nodes ≤ 2000000) ∧ B0 ≤ w'.heap.size) → Q .normal ⟨#[u0, u1, .pointer (some ⟨w.heap.size, 0, none⟩), u3, u4, u5, .string (tx M), u7, .pointer (some ⟨jb, 0, none⟩), u9, u10, u11, u12, u13, v14, v15, v16, v17, v18, u19, u20, u21, u22, u23, u24, u25, u26, u27, u28, u29, u30, u31, u32, u33, u34, u35, u36, u37, u38, u39, u40, u41, u42, u43, u44, u45, u46, u47, u48, u49, u50, u51, u52, u53, u54, u55, u56, u57, u58, u59, u60, u61, u62, u63, u64, u65, u66, u67, u68, u69, u70, u71, u72, u73, u74, u75, u76, u77, u78, u79, u80, u81, u82, u83, u84, u85, u86, u87, u88, u89, u90, v91, v92, v93, v94, v95, v96, v97, v98, v99, v100, v101, v102, v103, v104, v105, v106, v107, v108, v109, v110, v111, v112, v113, v114, v115, v116, v117, v118, v119, v120, v121, v122, v123, v124, v125, v126, v127, v128, v129, v130, v131, v132, v133, v134, v135, v136, v137, v138, v139, v140, v141, v142, v143, v144, v145, v146, v147, v148, v149, v150, v151, v152, v153, v154, v155, v156, v157, v158, v159, v160, u161, u162, u163, u164, u165, u166, u167, u168, u169, u170, u171, u172, u173, u174, u175, u176, u177, u178], []⟩ w')
    (hR : ∀ (a : Act) (w' : World), a.defers = [] → (results Tryz.f14 a.tmps).run Tryz.prog w' = .ok (.tuple #[.agg #[.slice none 0 0, .int .i64 0, .bool false, .int .i64 0], .int .i64 4]) w' → lineR L = none → Below w.heap.size w w' → Q .ret a w') :
    Code.wp Tryz.prog joLine Q ⟨#[u0, u1, .pointer (some ⟨w.heap.size, 0, none⟩), u3, u4, u5, .string (tx R), u7, .pointer (some ⟨jb, 0, none⟩), u9, u10, u11, u12, u13, u14, u15, u16, u17, u18, u19, u20, u21, u22, u23, u24, u25, u26, u27, u28, u29, u30, u31, u32, u33, u34, u35, u36, u37, u38, u39, u40, u41, u42, u43, u44, u45, u46, u47, u48, u49, u50, u51, u52, u53, u54, u55, u56, u57, u58, u59, u60, u61, u62, u63, u64, u65, u66, u67, u68, u69, u70, u71, u72, u73, u74, u75, u76, u77, u78, u79, u80, u81, u82, u83, u84, u85, u86, u87, u88, u89, u90, u91, u92, u93, u94, u95, u96, u97, u98, u99, u100, u101, u102, u103, u104, u105, u106, u107, u108, u109, u110, u111, u112, u113, u114, u115, u116, u117, u118, u119, u120, u121, u122, u123, u124, u125, u126, u127, u128, u129, u130, u131, u132, u133, u134, u135, u136, u137, u138, u139, u140, u141, u142, u143, u144, u145, u146, u147, u148, u149, u150, u151, u152, u153, u154, u155, u156, u157, u158, u159, u160, u161, u162, u163, u164, u165, u166, u167, u168, u169, u170, u171, u172, u173, u174, u175, u176, u177, u178], []⟩ wr := by
  conv => arg 2; whnf
  have HJ := hide hJ
  have HRI := hide hRI
  have hup := fun w' => UpTo_any (tx R) 10 w' (by rw [tx_size]; omega)
  simp only [tx_list] at hup
  rw [hL, hM] at hup
  generalize (cutAt 10 R).2.2 = cb2 at hup
  have HUP := hide (hup wr)
  have HZ := hide hZ
  have HB0 := hide hB0
  clear hJ hRI hZ hB0 hup hL hM
  go_wp2_with fail
  refine HUP.out.mono ?_
  rintro e w1 ⟨rfl, b1⟩
  have HJ1 := hide (HJ.out.later b1)
  have HRI1 := hide (HRI.out.kept (KeptBut.of_below (S := fun _ => False) b1 (Nat.le_refl _)) fun _ h => h.elim)
  have HZ1 : Hid (B0 ≤ w1.heap.size) := Nat.le_trans HZ.out b1.size
  clear b1 HUP HJ HRI HZ
  obtain ⟨SL, hSL⟩ : ∃ SL, tx L = SL := ⟨_, rfl⟩
  have hsl8 : SL.size ≤ 800 := by rw [← hSL, tx_size]; exact hL8
  have R0 : restB SL 0 = L := by rw [← hSL]; unfold restB bytesOf; rw [tx_list]; rfl
  rw [hSL]
  clear hSL
  obtain ⟨yb, hyb⟩ : ∃ yb, yb = w1.heap.size := ⟨_, rfl⟩
  obtain ⟨W1, hW1⟩ : ∃ W, W = w1.alloc (.cells #[.string SL, .int .i64 0, .bool false] 95) := ⟨_, rfl⟩
  have hb1 : Below w1.heap.size w1 W1 := by rw [hW1]; exact (Below.refl _ _).alloc (Nat.le_refl _) _
  have hk1 : Lx W1 w1.heap.size SL 0 false := by rw [hW1]; exact Bk.new rfl
  have hz1 : W1.heap.size = w1.heap.size + 1 := by rw [hW1]; simp
  obtain ⟨W2, hW2⟩ : ∃ W, W = W1.alloc (.cells #[.bool false, .int .i64 0, .int .i64 0, .int .i64 0, .string ⟨#[]⟩, .slice none 0 0, .string ⟨#[]⟩, .int .i64 0, .int .i64 0, .string ⟨#[]⟩, .slice none 0 0, .int .i64 0, .int .i64 0, .string ⟨#[]⟩, .slice none 0 0] 69) := ⟨_, rfl⟩
  have hb2 : Below W1.heap.size W1 W2 := by rw [hW2]; exact (Below.refl _ _).alloc (Nat.le_refl _) _
  have hk2 : Bk W2 (w1.heap.size + 1) (encRule zeroRule) := by rw [hW2, ← hz1]; exact Bk.new rfl
  have hz2 : W2.heap.size = w1.heap.size + 2 := by rw [hW2]; simp [hz1]
  have HB := hide (⟨hk1.later hb2, hk2, hb1.trans (hb2.mono (by omega)), by omega, fun e he => by cases he⟩ : LB w1 W2 SL 0 false (encRule zeroRule) [])
  have HW1 := hide hW1
  have HW2 := hide hW2
  have HPK := hide (lpeek_any w1.heap.size SL ⟨#[101, 97, 99, 104]⟩ 0 false W2 HB.out.lx (by omega) (by omega) (by decide))
  rw [R0, show (⟨#[101, 97, 99, 104]⟩ : ByteArray).data.toList = wEach from rfl] at HPK
  obtain ⟨E, hE⟩ : ∃ E, nextR wEach L = E := ⟨_, rfl⟩
  rw [hE] at HPK
  have HE := hide hE
  have HR0 := hide R0
  clear hE R0 hb1 hk1 hb2 hk2 hW1 hW2 hz1 hz2
  go_upto_region 26 with (fail)
  rw [← HW1.out, ← HW2.out]
  clear HW1 HW2
  go_wp2_with fail
  refine HPK.out.mono ?_
  rintro e w2 ⟨rfl, b2⟩
  have HB2 := hide (HB.out.later b2)
  clear b2 HPK HB
  go_upto_if 103 with (fail)
  go_cut [] from 104 to 106 (fun wd => Hid (∃ q, LB w1 wd SL q false (encRule ⟨E, 0, zeroX, ⟨#[]⟩, zeroX, zeroX⟩) [] ∧ restB SL q = afterR wEach L ∧ q ≤ 900))
  case first =>
    cases E with
    | false =>
      go_wp2
      go_meet
      exact ⟨0, HB2.out, by rw [afterR_no HE.out]; exact HR0.out, by omega⟩
    | true =>
      have HWD := hide (lword_any w1.heap.size SL 0 false w2 HB2.out.lx (by omega) (by omega))
      rw [HR0.out] at HWD
      go_wp2_with fail
      refine HWD.out.mono ?_
      rintro e w3 ⟨⟨rfl, q, hx3, hr3, hq3⟩, k3⟩
      have HB3 := hide (HB2.out.call k3 hx3)
      have HR3 := hide hr3
      have c0 := HB3.out.x.get (j := 0) rfl
      have z0 := HB3.out.x.fz 0
      have HB4 := hide (HB3.out.setX 0 rfl (.bool true))
      clear hx3 hr3 k3 HWD HB2 HB3
      go_wp2
      go_meet
      exact ⟨q, HB4.out, by rw [HR3.out, word_each HE.out], by omega⟩
  case rest =>
  obtain ⟨q1, hb1, hr1, hq1⟩ := hcut.out
  obtain ⟨wd1, rfl⟩ : ∃ wd, wd = wc := ⟨_, rfl⟩
  have HB1 := hide hb1
  obtain ⟨L1, hL1⟩ : ∃ L1, afterR wEach L = L1 := ⟨_, rfl⟩
  rw [hL1] at hr1
  have HR1 := hide hr1
  have HL1 := hide hL1
  clear hcut hb1 hr1 hL1 HB2 HR0
  have HP2 := hide (lpeek_any w1.heap.size SL ⟨#[115, 97, 109, 101]⟩ q1 false wd1 HB1.out.lx (by omega) (by omega) (by decide))
  rw [HR1.out, show (⟨#[115, 97, 109, 101]⟩ : ByteArray).data.toList = wSame from rfl] at HP2
  obtain ⟨n1, hn1⟩ : ∃ n, nextR wSame L1 = n := ⟨_, rfl⟩
  rw [hn1] at HP2
  have HN1 := hide hn1
  clear hn1
  go_wp2_with fail
  refine HP2.out.mono ?_
  rintro e w2 ⟨rfl, b2⟩
  have HB2 := hide (HB1.out.later b2)
  clear b2 HP2 HB1
  go_upto_if 108 with (fail)
  go_cut [] from 109 to 112 (fun wd => Hid (LB w1 wd SL q1 false (encRule ⟨E, whenR L1, zeroX, ⟨#[]⟩, zeroX, zeroX⟩) []))
  case first =>
    cases n1 with
    | true =>
      have HW : Hid (whenR L1 = 1) := by show _ = _; unfold whenR; rw [if_pos HN1.out]
      have c1 := HB2.out.x.get (j := 1) rfl
      have z1 := HB2.out.x.fz 1
      have HB4 := hide (HB2.out.setX 1 rfl (.int .i64 1))
      clear HB2
      go_wp2
      go_meet
      rw [HW.out]
      exact HB4
    | false =>
      have HP3 := hide (lpeek_any w1.heap.size SL ⟨#[111, 116, 104, 101, 114]⟩ q1 false w2 HB2.out.lx (by omega) (by omega) (by decide))
      rw [HR1.out, show (⟨#[111, 116, 104, 101, 114]⟩ : ByteArray).data.toList = wOther from rfl] at HP3
      obtain ⟨n2, hn2⟩ : ∃ n, nextR wOther L1 = n := ⟨_, rfl⟩
      rw [hn2] at HP3
      have HW : Hid (whenR L1 = if n2 = true then 2 else 0) := by show _ = _; unfold whenR; rw [if_neg (by rw [HN1.out]; decide), hn2]
      clear hn2
      go_wp2_with fail
      refine HP3.out.mono ?_
      rintro e w3 ⟨rfl, b3⟩
      have HB3 := hide (HB2.out.later b3)
      have c1 := HB3.out.x.get (j := 1) rfl
      have z1 := HB3.out.x.fz 1
      clear b3 HP3 HB2
      cases n2 with
      | true =>
        have HB4 := hide (HB3.out.setX 1 rfl (.int .i64 2))
        clear HB3
        go_wp2
        go_meet
        rw [HW.out]
        exact HB4
      | false =>
        go_wp2
        go_meet
        rw [HW.out]
        exact HB3
  case rest =>
  clear HB2 HN1
  obtain ⟨wn, hwn⟩ : ∃ wn, whenR L1 = wn := ⟨_, rfl⟩
  obtain ⟨wd2, rfl⟩ : ∃ wd, wd = wc := ⟨_, rfl⟩
  rw [hwn] at hcut
  have HB2 := hcut
  have HWN := hide hwn
  have c1 := HB2.out.x.get (j := 1) rfl
  obtain ⟨tb, htb⟩ : ∃ tb, decide (0 < wn) = tb := ⟨_, rfl⟩
  clear hcut hwn
  go_upto_if 115 with (fail)
  have HTB : Hid ((wn = 0 → tb = false) ∧ (wn ≠ 0 → tb = true)) := by
    show _ ∧ _
    rw [← htb]
    refine ⟨fun e => by rw [e]; rfl, fun e => ?_⟩
    have h1 : 0 ≤ whenR L1 := by unfold whenR; split; omega; split <;> omega
    rw [HWN.out] at h1
    rw [decide_eq_true_eq]; omega
  clear htb c1
  go_cut [] from 116 to 123 (fun wd => Hid (∃ (q : Nat) (b3 : Bool) (cond : ExR) (t : List UInt8), LB w1 wd SL q b3 (encRule ⟨E, wn, cond, tx t, zeroX, zeroX⟩) [cond] ∧ b3 = (condR L1).2.2.2 ∧ (b3 = false → cond.tree = (condR L1).1 ∧ t = (condR L1).2.1 ∧ restB SL q = (condR L1).2.2.1 ∧ cond.tree.nodes ≤ 2000000) ∧ q ≤ 2000 ∧ t.length ≤ 10000))
  case first =>
    by_cases hw0 : wn = 0
    · obtain rfl := HTB.out.1 hw0
      have HC : Hid (condR L1 = (blankX, [], L1, false)) := by
        show _ = _
        unfold condR
        rw [if_pos (by rw [HWN.out]; exact hw0), when_no (by rw [HWN.out]; exact hw0)]
      clear HTB hw0
      go_wp2
      go_meet
      rw [HC.out]
      exact ⟨q1, false, zeroX, [], HB2.out.add (zeroX_at _ _ 5), rfl, fun _ => ⟨rfl, rfl, HR1.out, by decide⟩, by omega, by simp⟩
    · obtain rfl := HTB.out.2 hw0
      have HC : Hid (condR L1 = ((readX 5 (afterW L1) false).1, (quotedR (readX 5 (afterW L1) false).2.1).1, (quotedR (readX 5 (afterW L1) false).2.1).2.1, (readX 5 (afterW L1) false).2.2 || (quotedR (readX 5 (afterW L1) false).2.1).2.2)) := by
        show _ = _
        unfold condR
        rw [if_neg (by rw [HWN.out]; exact hw0)]
      have HWW : Hid ((wordR L1).2 = afterW L1) := word_when (by rw [HWN.out]; exact hw0)
      have HWD := hide (lword_any w1.heap.size SL q1 false wd2 HB2.out.lx (by omega) (by omega))
      rw [HR1.out, HWW.out] at HWD
      clear HTB hw0 HWW
      go_wp2_with fail
      refine HWD.out.mono ?_
      rintro e w3 ⟨⟨rfl, q2, hx3, hr3, hq3⟩, k3⟩
      have HB3 := hide (HB2.out.call k3 hx3)
      have hcf := (cF_le 5 (by decide)).2
      have hq2 : q2 ≤ 901 := by omega
      have HRX := hide (lexpr_any w1.heap.size 5 1 SL q2 w3 (by decide) (by decide) HB3.out.lx (by omega) (by omega))
      unfold LRX at HRX
      rw [hr3] at HRX
      have HND := hide (readX_nodes 5 (afterW L1) false)
      obtain ⟨px, hpx⟩ : ∃ px, readX 5 (afterW L1) false = px := ⟨_, rfl⟩
      rw [hpx] at HRX HC HND
      clear hx3 hr3 k3 HWD HB2 hq3 hpx
      go_wp2_with fail
      refine HRX.out.mono ?_
      rintro e w5 ⟨⟨⟨rk, rn, rs, rao, rcap, ra⟩, q3, bd, rfl, hrx, hx5, hq5, hbd, hok⟩, k5⟩
      dsimp only [ExR.agg]
      have HX5 := hide ((HB3.out.call k5 hx5).add (hrx.mono fun q hq => Nat.le_trans HB3.out.sz hq))
      have d2 := HX5.out.x.get (j := 2) rfl
      have d3 := HX5.out.x.get (j := 3) rfl
      have d4 := HX5.out.x.get (j := 4) rfl
      have d5 := HX5.out.x.get (j := 5) rfl
      have y2 := HX5.out.x.fz 2
      have y3 := HX5.out.x.fz 3
      have y4 := HX5.out.x.fz 4
      have y5 := HX5.out.x.fz 5
      have HX6 := hide ((((HX5.out.setX 2 rfl (.int .i64 rk)).setX 3 rfl (.int .i64 rn)).setX 4 rfl (.string rs)).setX 5 rfl (.slice rao ra.length rcap))
      have hq3 : q3 ≤ 1100 := by omega
      have HQ := hide (lquoted_any w1.heap.size SL q3 bd _ HX6.out.lx (by omega) (by omega))
      have HBD := hide hbd
      have HOK := hide hok
      clear k5 hrx hx5 hbd hok HRX hq5 hcf
      go_wp2_with fail
      refine HQ.out.mono ?_
      rintro e w6 ⟨⟨t, rfl, htl, q4, hx6, hq6, hok6⟩, k6⟩
      have HX7 := hide (HX6.out.call k6 hx6)
      have HOK6 := hide hok6
      have d6 := HX7.out.x.get (j := 6) rfl
      have y6 := HX7.out.x.fz 6
      have HX8 := hide (HX7.out.setX 6 rfl (.string (tx t)))
      clear hx6 hok6 k6 HQ d2 d3 d4 d5 y2 y3 y4 y5 HX6 HX5
      go_wp2
      go_meet
      rw [HC.out]
      refine ⟨q4, _, ⟨rk, rn, rs, rao, rcap, ra⟩, t, HX8.out, ?_, ?_, by omega, by omega⟩
      · cases bd with
        | true => rw [← HBD.out]; rfl
        | false => rw [← HBD.out, (HOK.out rfl).2]
      · intro h
        cases bd with
        | true => cases h
        | false =>
          obtain ⟨h1, h2⟩ := HOK.out rfl
          obtain ⟨h3, h4⟩ := HOK6.out (by simpa using h)
          exact ⟨h1, by rw [h3, h2], by rw [h4, h2], by rw [show ExR.tree ⟨rk, rn, rs, rao, rcap, ra⟩ = px.1 from h1]; have := HND.out; omega⟩
  case rest =>
  obtain ⟨q, b3, cond, t, hb3, hbe, hok3, hq3, ht3⟩ := hcut.out
  obtain ⟨wd3, rfl⟩ : ∃ wd, wd = wc := ⟨_, rfl⟩
  have HB3 := hide hb3
  have HBE := hide hbe
  have HOK3 := hide hok3
  have HLR : Hid (lineR L = if (condR L1).2.2.2 = false then keyS ⟨E, wn, (condR L1).1, tx (condR L1).2.1, blankX, blankX⟩ (condR L1).2.2.1 else none) := by
    show _ = _
    unfold lineR
    rw [HL1.out, HE.out, HWN.out]
  clear hcut hb3 hbe hok3 HB2 HL1 HE HWN HR1 HTB
  have HWD := hide (lword_any w1.heap.size SL q b3 wd3 HB3.out.lx (by omega) (by omega))
  obtain ⟨A, hA⟩ : ∃ A, (wordR (restB SL q)).1 = A := ⟨_, rfl⟩
  obtain ⟨K0, hK0⟩ : ∃ K0, (wordR (restB SL q)).2 = K0 := ⟨_, rfl⟩
  rw [hA, hK0] at HWD
  have HLR1 : Hid ((b3 = true → lineR L = none) ∧ (b3 = false → lineR L = if A = wKey ∧ (readX 5 K0 false).2.2 = false then valS ⟨E, wn, cond.tree, tx t, (readX 5 K0 false).1, blankX⟩ (readX 5 K0 false).2.1 else none)) := by
    refine ⟨fun h => by rw [HLR.out, ← HBE.out, h]; rfl, fun h => ?_⟩
    obtain ⟨e1, e2, e3, _⟩ := HOK3.out h
    rw [HLR.out, ← HBE.out, h, if_pos rfl, ← e1, ← e2, ← e3]
    unfold keyS
    rw [hA, hK0]
  have HND : Hid (b3 = false → cond.tree.nodes ≤ 2000000) := fun h => (HOK3.out h).2.2.2
  clear hA hK0 HLR HBE HOK3
  go_wp2_with fail
  refine HWD.out.mono ?_
  rintro e w4 ⟨⟨rfl, q4, hx4, hr4, hq4⟩, k4⟩
  have HB4 := hide (HB3.out.call k4 hx4)
  have HR4 := hide hr4
  have s2 := HB4.out.lx.bad
  have HRZ := hide (HJ1.out.later HB4.out.k).rb
  have HBZ := hide (HJ1.out.later HB4.out.k).k
  clear hx4 hr4 k4 HWD HB3
  by_cases hA : A = wKey
  case neg =>
    have t1 : ((tx A).toList == [107, 101, 121]) = false := by rw [tl, tx_list, beq_eq_false_iff_ne]; exact hA
    have HNO : Hid (lineR L = none) := by
      cases b3 with
      | true => exact HLR1.out.1 rfl
      | false => show _ = _; rw [HLR1.out.2 rfl, if_neg (fun h => hA h.1)]
    clear hA HLR1
    go_upto_region 38 with (fail)
    obtain ⟨wz, rfl⟩ : ∃ wz, wz = w4 := ⟨_, rfl⟩
    clear s2
    have r0 := HRZ.out.get (j := 0) rfl
    have r1 := HRZ.out.get (j := 1) rfl
    have r2 := HRZ.out.get (j := 2) rfl
    have r3 := HRZ.out.get (j := 3) rfl
    have y0 := HRZ.out.fz 0
    have y1 := HRZ.out.fz 1
    have y2 := HRZ.out.fz 2
    have y3 := HRZ.out.fz 3
    have hk9 := HRZ.out.set4 (.slice none 0 0) (.int .i64 0) (.bool false) (.int .i64 0)
    have f0 := hk9.get (j := 0) rfl
    have f1 := hk9.get (j := 1) rfl
    have f2 := hk9.get (j := 2) rfl
    have f3 := hk9.get (j := 3) rfl
    have HBF : Hid (Below w.heap.size w ((((wz.setCell ⟨w.heap.size, 0, none⟩ (.slice none 0 0)).setCell ⟨w.heap.size, 1, none⟩ (.int .i64 0)).setCell ⟨w.heap.size, 2, none⟩ (.bool false)).setCell ⟨w.heap.size, 3, none⟩ (.int .i64 0))) :=
      (((HBZ.out.setCell (p := ⟨w.heap.size, 0, none⟩) (Nat.le_refl _) _).setCell (p := ⟨w.heap.size, 1, none⟩) (Nat.le_refl _) _).setCell (p := ⟨w.heap.size, 2, none⟩) (Nat.le_refl _) _).setCell (p := ⟨w.heap.size, 3, none⟩) (Nat.le_refl _) _
    clear hk9 HRZ HBZ hN
    go_wp2
    exact hR _ _ rfl (by simp [results, Tryz.results14, go_sem, f0, f1, f2, f3, y0, y1, y2, y3]) HNO.out HBF.out
  have t1 : ((tx A).toList == [107, 101, 121]) = true := by rw [hA, tl, tx_list]; decide
  cases b3 with
  | true =>
    have HNO : Hid (lineR L = none) := HLR1.out.1 rfl
    clear hA HLR1
    go_upto_region 38 with (fail)
    obtain ⟨wz, rfl⟩ : ∃ wz, wz = w4 := ⟨_, rfl⟩
    clear s2
    have r0 := HRZ.out.get (j := 0) rfl
    have r1 := HRZ.out.get (j := 1) rfl
    have r2 := HRZ.out.get (j := 2) rfl
    have r3 := HRZ.out.get (j := 3) rfl
    have y0 := HRZ.out.fz 0
    have y1 := HRZ.out.fz 1
    have y2 := HRZ.out.fz 2
    have y3 := HRZ.out.fz 3
    have hk9 := HRZ.out.set4 (.slice none 0 0) (.int .i64 0) (.bool false) (.int .i64 0)
    have f0 := hk9.get (j := 0) rfl
    have f1 := hk9.get (j := 1) rfl
    have f2 := hk9.get (j := 2) rfl
    have f3 := hk9.get (j := 3) rfl
    have HBF : Hid (Below w.heap.size w ((((wz.setCell ⟨w.heap.size, 0, none⟩ (.slice none 0 0)).setCell ⟨w.heap.size, 1, none⟩ (.int .i64 0)).setCell ⟨w.heap.size, 2, none⟩ (.bool false)).setCell ⟨w.heap.size, 3, none⟩ (.int .i64 0))) :=
      (((HBZ.out.setCell (p := ⟨w.heap.size, 0, none⟩) (Nat.le_refl _) _).setCell (p := ⟨w.heap.size, 1, none⟩) (Nat.le_refl _) _).setCell (p := ⟨w.heap.size, 2, none⟩) (Nat.le_refl _) _).setCell (p := ⟨w.heap.size, 3, none⟩) (Nat.le_refl _) _
    clear hk9 HRZ HBZ hN
    go_wp2
    exact hR _ _ rfl (by simp [results, Tryz.results14, go_sem, f0, f1, f2, f3, y0, y1, y2, y3]) HNO.out HBF.out
  | false =>
  have HLR2 : Hid (lineR L = if (readX 5 K0 false).2.2 = false then valS ⟨E, wn, cond.tree, tx t, (readX 5 K0 false).1, blankX⟩ (readX 5 K0 false).2.1 else none) := by
    show _ = _
    rw [HLR1.out.2 rfl]
    by_cases h : (readX 5 K0 false).2.2 = false
    · rw [if_pos ⟨hA, h⟩, if_pos h]
    · rw [if_neg (fun h2 => h h2.2), if_neg h]
  clear HLR1 hA HRZ HBZ
  have hcf := (cF_le 5 (by decide)).2
  have hq4' : q4 ≤ 2001 := by omega
  have HRX := hide (lexpr_any w1.heap.size 5 1 SL q4 w4 (by decide) (by decide) HB4.out.lx (by omega) (by omega))
  unfold LRX at HRX
  rw [HR4.out] at HRX
  have HNK := hide (readX_nodes 5 K0 false)
  obtain ⟨px, hpx⟩ : ∃ px, readX 5 K0 false = px := ⟨_, rfl⟩
  rw [hpx] at HRX HLR2 HNK
  clear hpx hq4 HR4
  go_wp2_with fail
  refine HRX.out.mono ?_
  rintro e w5 ⟨⟨⟨rk, rn, rs, rao, rcap, ra⟩, q5, bd, rfl, hrx, hx5, hq5, hbd, hok⟩, k5⟩
  dsimp only [ExR.agg]
  have HX5 := hide ((HB4.out.call k5 hx5).add (hrx.mono fun q hq => Nat.le_trans HB4.out.sz hq))
  have d7 := HX5.out.x.get (j := 7) rfl
  have d8 := HX5.out.x.get (j := 8) rfl
  have d9 := HX5.out.x.get (j := 9) rfl
  have d10 := HX5.out.x.get (j := 10) rfl
  have y7 := HX5.out.x.fz 7
  have y8 := HX5.out.x.fz 8
  have y9 := HX5.out.x.fz 9
  have y10 := HX5.out.x.fz 10
  have HX6 := hide ((((HX5.out.setX 7 rfl (.int .i64 rk)).setX 8 rfl (.int .i64 rn)).setX 9 rfl (.string rs)).setX 10 rfl (.slice rao ra.length rcap))
  have hq5' : q5 ≤ 2300 := by omega
  have HBD := hide hbd
  have HOK := hide hok
  clear k5 hrx hx5 hbd hok HRX hq5
  go_upto_region 40 with (fail)
  clear d7 d8 d9 d10 y7 y8 y9 y10 HX5 s2 t1
  obtain ⟨key, hkey⟩ : ∃ key : ExR, key = ⟨rk, rn, rs, rao, rcap, ra⟩ := ⟨_, rfl⟩
  have HX : Hid (LB w1 ((((w5.setCell ⟨w1.heap.size + 1, 7, none⟩ (.int .i64 rk)).setCell ⟨w1.heap.size + 1, 8, none⟩ (.int .i64 rn)).setCell ⟨w1.heap.size + 1, 9, none⟩ (.string rs)).setCell ⟨w1.heap.size + 1, 10, none⟩ (.slice rao ra.length rcap)) SL q5 bd (encRule ⟨E, wn, cond, tx t, key, zeroX⟩) [key, cond]) := by rw [hkey]; exact HX6.out
  have HKT : Hid (bd = false → key.tree = px.1 ∧ restB SL q5 = px.2.1) := by rw [hkey]; exact HOK.out
  generalize ((((w5.setCell ⟨w1.heap.size + 1, 7, none⟩ (.int .i64 rk)).setCell ⟨w1.heap.size + 1, 8, none⟩ (.int .i64 rn)).setCell ⟨w1.heap.size + 1, 9, none⟩ (.string rs)).setCell ⟨w1.heap.size + 1, 10, none⟩ (.slice rao ra.length rcap)) = w6 at *
  clear HX6 HOK hkey HB4
  have s2 := HX.out.lx.bad
  have HRZ := hide (HJ1.out.later HX.out.k).rb
  have HBZ := hide (HJ1.out.later HX.out.k).k
  cases bd with
  | true =>
    have HNO : Hid (lineR L = none) := by show _ = _; rw [HLR2.out, ← HBD.out]; rfl
    clear HLR2 HBD HKT
    go_upto_region 41 with (fail)
    obtain ⟨wz, rfl⟩ : ∃ wz, wz = w6 := ⟨_, rfl⟩
    clear s2
    have r0 := HRZ.out.get (j := 0) rfl
    have r1 := HRZ.out.get (j := 1) rfl
    have r2 := HRZ.out.get (j := 2) rfl
    have r3 := HRZ.out.get (j := 3) rfl
    have y0 := HRZ.out.fz 0
    have y1 := HRZ.out.fz 1
    have y2 := HRZ.out.fz 2
    have y3 := HRZ.out.fz 3
    have hk9 := HRZ.out.set4 (.slice none 0 0) (.int .i64 0) (.bool false) (.int .i64 0)
    have f0 := hk9.get (j := 0) rfl
    have f1 := hk9.get (j := 1) rfl
    have f2 := hk9.get (j := 2) rfl
    have f3 := hk9.get (j := 3) rfl
    have HBF : Hid (Below w.heap.size w ((((wz.setCell ⟨w.heap.size, 0, none⟩ (.slice none 0 0)).setCell ⟨w.heap.size, 1, none⟩ (.int .i64 0)).setCell ⟨w.heap.size, 2, none⟩ (.bool false)).setCell ⟨w.heap.size, 3, none⟩ (.int .i64 0))) :=
      (((HBZ.out.setCell (p := ⟨w.heap.size, 0, none⟩) (Nat.le_refl _) _).setCell (p := ⟨w.heap.size, 1, none⟩) (Nat.le_refl _) _).setCell (p := ⟨w.heap.size, 2, none⟩) (Nat.le_refl _) _).setCell (p := ⟨w.heap.size, 3, none⟩) (Nat.le_refl _) _
    clear hk9 HRZ HBZ hN
    go_wp2
    exact hR _ _ rfl (by simp [results, Tryz.results14, go_sem, f0, f1, f2, f3, y0, y1, y2, y3]) HNO.out HBF.out
  | false =>
  have HKT2 := hide (HKT.out rfl)
  have HLR3 : Hid (lineR L = valS ⟨E, wn, cond.tree, tx t, key.tree, blankX⟩ px.2.1) := by show _ = _; rw [HLR2.out, ← HBD.out, if_pos rfl, HKT2.out.1]
  have HKN : Hid (key.tree.nodes ≤ 2000000) := by have := HNK.out; show _ ≤ _; rw [HKT2.out.1]; omega
  have HWD := hide (lword_any w1.heap.size SL q5 false w6 HX.out.lx (by omega) (by omega))
  rw [HKT2.out.2] at HWD
  obtain ⟨A2, hA2⟩ : ∃ A, (wordR px.2.1).1 = A := ⟨_, rfl⟩
  obtain ⟨V0, hV0⟩ : ∃ K0, (wordR px.2.1).2 = K0 := ⟨_, rfl⟩
  rw [hA2, hV0] at HWD
  have HLR4 : Hid (lineR L = if A2 = wVal ∧ (readX 5 V0 false).2.2 = false then some ⟨E, wn, cond.tree, tx t, key.tree, (readX 5 V0 false).1⟩ else none) := by
    show _ = _
    rw [HLR3.out]
    unfold valS
    rw [hA2, hV0]
  clear HLR3 HLR2 HBD HKT HKT2 HNK hA2 hV0 HRZ HBZ
  go_wp2_with fail
  refine HWD.out.mono ?_
  rintro e w7 ⟨⟨rfl, q7, hx7, hr7, hq7⟩, k7⟩
  have HB7 := hide (HX.out.call k7 hx7)
  have HR7 := hide hr7
  have HRZ := hide (HJ1.out.later HB7.out.k).rb
  have HBZ := hide (HJ1.out.later HB7.out.k).k
  clear hx7 hr7 k7 HWD HX s2
  by_cases hA : A2 = wVal
  case neg =>
    have t1 : ((tx A2).toList == [118, 97, 108]) = false := by rw [tl, tx_list, beq_eq_false_iff_ne]; exact hA
    have HNO : Hid (lineR L = none) := by show _ = _; rw [HLR4.out, if_neg (fun h => hA h.1)]
    clear hA HLR4
    go_upto_region 41 with (fail)
    obtain ⟨wz, rfl⟩ : ∃ wz, wz = w7 := ⟨_, rfl⟩
    have r0 := HRZ.out.get (j := 0) rfl
    have r1 := HRZ.out.get (j := 1) rfl
    have r2 := HRZ.out.get (j := 2) rfl
    have r3 := HRZ.out.get (j := 3) rfl
    have y0 := HRZ.out.fz 0
    have y1 := HRZ.out.fz 1
    have y2 := HRZ.out.fz 2
    have y3 := HRZ.out.fz 3
    have hk9 := HRZ.out.set4 (.slice none 0 0) (.int .i64 0) (.bool false) (.int .i64 0)
    have f0 := hk9.get (j := 0) rfl
    have f1 := hk9.get (j := 1) rfl
    have f2 := hk9.get (j := 2) rfl
    have f3 := hk9.get (j := 3) rfl
    have HBF : Hid (Below w.heap.size w ((((wz.setCell ⟨w.heap.size, 0, none⟩ (.slice none 0 0)).setCell ⟨w.heap.size, 1, none⟩ (.int .i64 0)).setCell ⟨w.heap.size, 2, none⟩ (.bool false)).setCell ⟨w.heap.size, 3, none⟩ (.int .i64 0))) :=
      (((HBZ.out.setCell (p := ⟨w.heap.size, 0, none⟩) (Nat.le_refl _) _).setCell (p := ⟨w.heap.size, 1, none⟩) (Nat.le_refl _) _).setCell (p := ⟨w.heap.size, 2, none⟩) (Nat.le_refl _) _).setCell (p := ⟨w.heap.size, 3, none⟩) (Nat.le_refl _) _
    clear hk9 HRZ HBZ hN
    go_wp2
    exact hR _ _ rfl (by simp [results, Tryz.results14, go_sem, f0, f1, f2, f3, y0, y1, y2, y3]) HNO.out HBF.out
  have t1 : ((tx A2).toList == [118, 97, 108]) = true := by rw [hA, tl, tx_list]; decide
  have HLR5 : Hid (lineR L = if (readX 5 V0 false).2.2 = false then some ⟨E, wn, cond.tree, tx t, key.tree, (readX 5 V0 false).1⟩ else none) := by
    show _ = _
    rw [HLR4.out]
    by_cases h : (readX 5 V0 false).2.2 = false
    · rw [if_pos ⟨hA, h⟩, if_pos h]
    · rw [if_neg (fun h2 => h h2.2), if_neg h]
  clear HLR4 hA HRZ HBZ
  have hq7' : q7 ≤ 2301 := by omega
  have HRX := hide (lexpr_any w1.heap.size 5 1 SL q7 w7 (by decide) (by decide) HB7.out.lx (by omega) (by omega))
  unfold LRX at HRX
  rw [HR7.out] at HRX
  have HNK := hide (readX_nodes 5 V0 false)
  obtain ⟨py, hpy⟩ : ∃ px, readX 5 V0 false = px := ⟨_, rfl⟩
  rw [hpy] at HRX HLR5 HNK
  clear hpy hq7 HR7
  go_wp2_with fail
  refine HRX.out.mono ?_
  rintro e w8 ⟨⟨⟨vk, vn, vs, vao, vcap, va⟩, q8, b8, rfl, hrx, hx8, hq8, hbd, hok⟩, k8⟩
  dsimp only [ExR.agg]
  have HX8 := hide ((HB7.out.call k8 hx8).add (hrx.mono fun q hq => Nat.le_trans HB7.out.sz hq))
  have d7 := HX8.out.x.get (j := 11) rfl
  have d8 := HX8.out.x.get (j := 12) rfl
  have d9 := HX8.out.x.get (j := 13) rfl
  have d10 := HX8.out.x.get (j := 14) rfl
  have y7 := HX8.out.x.fz 11
  have y8 := HX8.out.x.fz 12
  have y9 := HX8.out.x.fz 13
  have y10 := HX8.out.x.fz 14
  have HX9 := hide ((((HX8.out.setX 11 rfl (.int .i64 vk)).setX 12 rfl (.int .i64 vn)).setX 13 rfl (.string vs)).setX 14 rfl (.slice vao va.length vcap))
  have HBD := hide hbd
  have HOK := hide hok
  clear k8 hrx hx8 hbd hok HRX hq8
  go_upto_region 43 with (fail)
  clear d7 d8 d9 d10 y7 y8 y9 y10 HX8 t1
  obtain ⟨val, hval⟩ : ∃ val : ExR, val = ⟨vk, vn, vs, vao, vcap, va⟩ := ⟨_, rfl⟩
  have HX : Hid (LB w1 ((((w8.setCell ⟨w1.heap.size + 1, 11, none⟩ (.int .i64 vk)).setCell ⟨w1.heap.size + 1, 12, none⟩ (.int .i64 vn)).setCell ⟨w1.heap.size + 1, 13, none⟩ (.string vs)).setCell ⟨w1.heap.size + 1, 14, none⟩ (.slice vao va.length vcap)) SL q8 b8 (encRule ⟨E, wn, cond, tx t, key, val⟩) [val, key, cond]) := by rw [hval]; exact HX9.out
  have HVT : Hid (b8 = false → val.tree = py.1 ∧ restB SL q8 = py.2.1) := by rw [hval]; exact HOK.out
  generalize ((((w8.setCell ⟨w1.heap.size + 1, 11, none⟩ (.int .i64 vk)).setCell ⟨w1.heap.size + 1, 12, none⟩ (.int .i64 vn)).setCell ⟨w1.heap.size + 1, 13, none⟩ (.string vs)).setCell ⟨w1.heap.size + 1, 14, none⟩ (.slice vao va.length vcap)) = w9 at *
  clear HX9 HOK hval HB7
  have s2 := HX.out.lx.bad
  have HJ9 := hide (HJ1.out.later HX.out.k)
  have HRZ := hide HJ9.out.rb
  have HBZ := hide HJ9.out.k
  cases b8 with
  | true =>
    have HNO : Hid (lineR L = none) := by show _ = _; rw [HLR5.out, ← HBD.out]; rfl
    clear HLR5 HBD HVT HJ9
    go_upto_region 44 with (fail)
    obtain ⟨wz, rfl⟩ : ∃ wz, wz = w9 := ⟨_, rfl⟩
    clear s2
    have r0 := HRZ.out.get (j := 0) rfl
    have r1 := HRZ.out.get (j := 1) rfl
    have r2 := HRZ.out.get (j := 2) rfl
    have r3 := HRZ.out.get (j := 3) rfl
    have y0 := HRZ.out.fz 0
    have y1 := HRZ.out.fz 1
    have y2 := HRZ.out.fz 2
    have y3 := HRZ.out.fz 3
    have hk9 := HRZ.out.set4 (.slice none 0 0) (.int .i64 0) (.bool false) (.int .i64 0)
    have f0 := hk9.get (j := 0) rfl
    have f1 := hk9.get (j := 1) rfl
    have f2 := hk9.get (j := 2) rfl
    have f3 := hk9.get (j := 3) rfl
    have HBF : Hid (Below w.heap.size w ((((wz.setCell ⟨w.heap.size, 0, none⟩ (.slice none 0 0)).setCell ⟨w.heap.size, 1, none⟩ (.int .i64 0)).setCell ⟨w.heap.size, 2, none⟩ (.bool false)).setCell ⟨w.heap.size, 3, none⟩ (.int .i64 0))) :=
      (((HBZ.out.setCell (p := ⟨w.heap.size, 0, none⟩) (Nat.le_refl _) _).setCell (p := ⟨w.heap.size, 1, none⟩) (Nat.le_refl _) _).setCell (p := ⟨w.heap.size, 2, none⟩) (Nat.le_refl _) _).setCell (p := ⟨w.heap.size, 3, none⟩) (Nat.le_refl _) _
    clear hk9 HRZ HBZ hN
    go_wp2
    exact hR _ _ rfl (by simp [results, Tryz.results14, go_sem, f0, f1, f2, f3, y0, y1, y2, y3]) HNO.out HBF.out
  | false =>
  have HVT2 := hide (HVT.out rfl)
  have HLR6 : Hid (lineR L = some (⟨E, wn, cond, tx t, key, val⟩ : RuleR).v) := by show _ = _; rw [HLR5.out, ← HBD.out, if_pos rfl, ← HVT2.out.1]; rfl
  have HVN : Hid (val.tree.nodes ≤ 2000000) := by have := HNK.out; show _ ≤ _; rw [HVT2.out.1]; omega
  have HNN : Hid (cond.tree.nodes ≤ 2000000 ∧ key.tree.nodes ≤ 2000000 ∧ val.tree.nodes ≤ 2000000) := ⟨HND.out (by trivial), HKN.out, HVN.out⟩
  clear HLR5 HBD HVT HVT2 HNK HVN HKN HND HRZ HBZ hR
  obtain ⟨i0, hi0, hz0, hz1', hz2⟩ := info_parts infoRuleR
  have HOE : Hid (∀ k, (Value.slice ea l.length ec).ownBlock = some k → B0 ≤ k ∧ k < w1.heap.size) := fun k e => HRI1.out.own.lt k e
  have HFL : Hid (l.length + 1 ≤ 1000000) := by show _ ≤ _; omega
  have HL1 : Hid (∀ r : RuleR, (l ++ [r]).length = l.length + 1) := fun r => by simp
  have HTX : Hid ((tx t).size ≤ maxLen) := by show _ ≤ _; rw [tx_size]; unfold maxLen; omega
  have c0 := HX.out.x.get (j := 0) rfl
  have c1 := HX.out.x.get (j := 1) rfl
  have c2 := HX.out.x.get (j := 2) rfl
  have c3 := HX.out.x.get (j := 3) rfl
  have c4 := HX.out.x.get (j := 4) rfl
  have c5 := HX.out.x.get (j := 5) rfl
  have c6 := HX.out.x.get (j := 6) rfl
  have c7 := HX.out.x.get (j := 7) rfl
  have c8 := HX.out.x.get (j := 8) rfl
  have c9 := HX.out.x.get (j := 9) rfl
  have c10 := HX.out.x.get (j := 10) rfl
  have c11 := HX.out.x.get (j := 11) rfl
  have c12 := HX.out.x.get (j := 12) rfl
  have c13 := HX.out.x.get (j := 13) rfl
  have c14 := HX.out.x.get (j := 14) rfl
  have e0 := HJ9.out.bk.get (j := 0) rfl
  have HOWN := hide ((HRI1.out.kept (KeptBut.of_below (S := fun _ => False) HX.out.k (Nat.le_refl _)) fun _ h => h.elim).own)
  have HSZ := hide HX.out.k.size
  go_upto_region 45 with (fail)
  clear s2
  go_wp2_with (at_builtin; refine wpList_append_wide (enc := encRule) encRule_len _ _ 22 i0 _ rfl rfl Tryz.underlying22 hi0 hz0 hz1' hz2 rfl (by decide) (by decide) (HOWN.out.alloc _) (Below.refl _ _) (by have h1 := HZ1.out; have h2 := HSZ.out; simp; omega) HFL.out rfl (⟨E, wn, cond, tx t, key, val⟩ : RuleR) ⟨w9.heap.size, 0, none⟩ 1 rfl (news_cells w9 _ rfl) (one_rule _) ?_; intro v' w2 ho hb1 hgr hat; have hkk := KeptBut.of_grown (S := fun q => (Value.slice ea l.length ec).ownBlock = some q) hgr (fun q e => e); have HJ10 := hide ((HJ9.out.later ((Below.refl _ _).alloc (Nat.le_refl _) _)).kept hkk (fun q e => by have h1 := (HOE.out _ e).1; have h2 := HB0.out; omega)); have HRI5 := hide (HRI1.out.put (xb := w1.heap.size) (eb := jb) (k := 0) (u := v') HZ1.out (Nat.le_refl _) HB0.out (KeptBut.of_below (below_alloc HX.out.k HSZ.out _) (Nat.le_refl _)) (fun t ht => ((HX.out.ts t ht).mono (fun q hq => by omega)).later ((Below.refl _ _).alloc (Nat.le_refl _) _)) HTX.out ho hgr hat); have s6 := HJ10.out.bk.get (j := 0) rfl; have y6 := HJ10.out.bk.fz 0; have HJ11 := hide (HJ10.out.setJ 0 v' (by simp)); have HZF : Hid (B0 ≤ w2.heap.size) := (by have h1 := HZ1.out; have h2 := HSZ.out; have h3 := hkk.size; simp at h3; show _ ≤ _; omega); obtain ⟨na, nc, hv'⟩ := id ho.1; subst hv'; rw [HL1.out] at HJ11 HRI5; clear ho hb1 hgr hat hkk e0 c0 c1 c2 c3 c4 c5 c6 c7 c8 c9 c10 c11 c12 c13 c14 HJ10 HOWN)
  go_wp2
  exact ⟨⟨E, wn, cond, tx t, key, val⟩, na, nc, HJ11.out, HRI5.out, HLR6.out, HNN.out, by simpa [World.setCell] using HZF.out⟩
end Go.Proofs.YtgeedjlbajmdkaaGreatDoor
