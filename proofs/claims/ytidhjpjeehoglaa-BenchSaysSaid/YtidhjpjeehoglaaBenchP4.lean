/- BenchSays: the loop over all places. -/
import Derived.Test.YtidhjpjeehoglaaBenchR
namespace Go.Proofs.Ytidhjpjeehoglaa
open Go.RowKit Go.ChangeShapes Go.WideShapes Go.ChangeAt

/-- what holds in the loop -/
structure SC (w0 w : World) (A : Bad) (m n ab cb : Nat) (O : List Bool) (I : List TaskV) (x : ActV) (k : Nat) : Prop where
  sa : SA w0 w A m n ab O I x
  bc : Bk w cb ((cntTo O I k).map (.int .i64))
  hc : ab + 1 + 1 < cb
theorem SC.below {w0 w w' : World} {A : Bad} {m n ab cb : Nat} {O : List Bool} {I : List TaskV} {x : ActV} {k : Nat} (h : SC w0 w A m n ab cb O I x k) (b : Below w.heap.size w w') : SC w0 w' A m n ab cb O I x k :=
  ⟨h.sa.below b, h.bc.later b, h.hc⟩
theorem taskEq (a t : TaskV) : ((true, a) == (true, t)) = (a.1 == t.1 && (a.2.1 == t.2.1 && a.2.2 == t.2.2)) := by
  obtain ⟨a0, a1, a2⟩ := a
  obtain ⟨t0, t1, t2⟩ := t
  rw [slot_eq]; rfl
theorem BS.kept {S : Nat → Prop} {w0 w w' : World} {A : Bad} {ws n : Nat} {O : List Bool} {I : List TaskV} (h : BS w0 w A ws n O I) (k : KeptBut S w w') (hS : ∀ q, S q → A.ib < q) : BS w0 w' A ws n O I := by
  have hb := h.hb
  have ho := h.ho
  have h0 := h.h0
  have hbo : A.base ≤ A.bb := h.bt.bt
  refine ⟨h.bt.kept k (fun e => by have := hS _ e; omega) (fun e => by have := hS _ e; omega) (fun i r hr e => by have := hS _ e; have := hb.2.2 i r hr; omega), h.bo.kept k (fun e => by have := hS _ e; omega), h.bi.kept k (fun e => by have := hS _ e; omega), ?_, h.lo, h.li, h.lr, h.h0, h.hb, h.ho, h.jobs⟩
  exact h.bel.trans (k.below (fun q e => by have := hS _ e; omega) h.bel.size)
theorem SC.hit {w0 w : World} {A : Bad} {m n ab cb : Nat} {O : List Bool} {I : List TaskV} {x : ActV} {k r : Nat} (h : SC w0 w A m n ab cb O I x k) (hr : r < 3) (hc : cntTo O I (k + 1) = (cntTo O I k).set r ((cntTo O I k).getD r 0 + 1)) :
    SC w0 (w.setCell ⟨cb, r, none⟩ (.int .i64 ((cntTo O I k).getD r 0 + 1))) A m n ab cb O I x (k + 1) := by
  have ks := (KeptBut.refl (fun q => q = cb) w).setCell (p := ⟨cb, r, none⟩) rfl (.int .i64 ((cntTo O I k).getD r 0 + 1))
  have hcb := h.hc
  have hab := h.sa.hi
  refine ⟨⟨h.sa.bs.kept ks (fun q e => by omega), h.sa.ba.kept ks (by omega), h.sa.bp.kept ks (by omega), h.sa.bt.kept ks (by omega), h.sa.hi⟩, ?_, h.hc⟩
  rw [hc, List.map_set]
  have hlt : r < (cntTo O I k).length := by rw [cntTo_len]; exact hr
  exact h.bc.set (u := .int .i64 (cntTo O I k)[r]) _ (by rw [List.getElem?_map, List.getElem?_eq_getElem hlt]; rfl)
theorem SC.count {w0 w : World} {A : Bad} {m n ab cb : Nat} {O : List Bool} {I : List TaskV} {x : ActV} {k r : Nat} (h : SC w0 w A m n ab cb O I x k) (hr : r < 3) :
    w.cell? ⟨cb, r, none⟩ = some (.int .i64 ((cntTo O I k).getD r 0)) ∧ 0 ≤ (cntTo O I k).getD r 0 ∧ (cntTo O I k).getD r 0 ≤ k := by
  have hlt : r < (cntTo O I k).length := by rw [cntTo_len]; exact hr
  have e : (cntTo O I k).getD r 0 = (cntTo O I k)[r] := by rw [List.getD_eq_getElem?_getD, List.getElem?_eq_getElem hlt]; rfl
  refine ⟨h.bc.get (by rw [List.getElem?_map, List.getElem?_eq_getElem hlt, e]; rfl), ?_⟩
  rw [e]; exact cntTo_le O I k _ (List.getElem_mem hlt)
theorem cnt_hit {O : List Bool} {I : List TaskV} {k tn : Nat} {t1 : Bool} {t2 : Int} (hO : O.getD k false = true) (hI : ((tn : Int), t1, t2) = I.getD k (0, false, 0)) (h5 : tn % 5 < 3) :
    cntTo O I (k + 1) = (cntTo O I k).set (tn % 5) ((cntTo O I k).getD (tn % 5) 0 + 1) := by
  rw [cntTo_succ, slotOf_on hO, ← hI]
  unfold countIn
  rw [if_pos rfl]
  have e : wh5 (tn : Int) = ((tn % 5 : Nat) : Int) := by unfold wh5; exact (Int.ofNat_tmod tn 5).symm
  show bump _ (wh5 (tn : Int)) = _
  rw [e]
  unfold bump
  rw [if_pos ⟨by omega, by rw [cntTo_len]; omega⟩, Int.toNat_natCast]
theorem cnt_miss {O : List Bool} {I : List TaskV} {k tn : Nat} {t1 : Bool} {t2 : Int} (hO : O.getD k false = true) (hI : ((tn : Int), t1, t2) = I.getD k (0, false, 0)) (h5 : ¬ tn % 5 < 3) :
    cntTo O I (k + 1) = cntTo O I k := by
  rw [cntTo_succ, slotOf_on hO, ← hI]
  unfold countIn
  rw [if_pos rfl]
  have e : wh5 (tn : Int) = ((tn % 5 : Nat) : Int) := by unfold wh5; exact (Int.ofNat_tmod tn 5).symm
  show bump _ (wh5 (tn : Int)) = _
  rw [e]
  unfold bump
  rw [if_neg (by rw [cntTo_len]; omega)]
set_option maxRecDepth 100000 in
set_option maxHeartbeats 8000000 in
theorem L_all {w w3 : World} {A : Bad} {m n ab cb : Nat} {O : List Bool} {I : List TaskV} {x : ActV} (h : SC w w3 A m n ab cb O I x 0)
    (u2 u3 u4 u5 u6 u7 u9 u12 u16 u17 u19 u20 u21 u22 u23 u24 u25 u26 u27 u31 u32 u33 u34 u35 u36 u37 u38 u39 u40 u41 u42 u43 u44 u45 u46 u47 u48 u49 u50 u51 u52 u53 u54 u55 u56 u57 u58 u59 u60 u61 u62 u63 u64 u65 u66 u67 u68 u69 u70 u71 u72 u73 u74 u75 u76 u77 u78 u79 u80 u81 u82 u83 u84 u85 u86 u87 u88 u89 u90 u91 u92 u93 u94 u95 u96 u97 u98 u99 u100 u101 u102 u103 u104 u105 u106 u107 u108 u109 u110 u111 u112 u113 u114 u115 u116 u117 u118 u119 u120 u121 u122 u123 u124 u125 u126 u127 u128 u129 u130 u131 u132 u133 u134 u135 u136 u137 u138 u139 u140 u141 u142 u143 u144 u145 u146 u147 u148 u149 u150 u151 u152 u153 u154 u155 u156 u157 u158 u159 u160 u161 u162 u163 u164 u165 u166 u167 u168 u169 u170 u171 u172 u173 u174 u175 u176 u177 u178 u179 u180 u181 u182 u183 u184 u185 u186 u187 u188 u189 u190 u191 u192 u193 u194 u195 u196 u197 u198 u199 u200 u201 u202 u203 u204 u205 u206 u207 u208 u209 u210 u211 u212 u213 u214 u215 u216 u217 u218 u219 u220 u221 u222 u223 u224 u225 u226 u227 u228 u229 u230 u231 u232 u233 u234 u235 u236 u237 u238 u239 u240 u241 u242 u243 u244 u245 u246 u247 u248 u249 u250 u251 u252 u253 u254 u255 u256 u257 u258 u259 u260 u261 u262 u263 u264 u265 u266 u267 u268 u269 u270 u271 u272 u273 u274 u275 u276 u277 u278 u279 u280 u281 u282 u283 u284 u285 u286 u287 u288 u289 u290 u291 u292 u293 u294 u295 u296 u297 u298 u299 u300 u301 u302 u303 u304 u305 u306 u307 u308 u309 u310 u311 u312 u313 u314 u315 u316 u317 u318 u319 u320 u321 u322 u323 u324 u325 u326 u327 u328 u329 u330 u331 u332 u333 u334 u335 u336 u337 u338 u339 u340 u341 u342 u343 u344 u345 u346 u347 u348 u349 u350 : Value) {K : Act → World → Prop} {Q' : Exit → Act → World → Prop}
    (hK : ∀ (v6 v30 v31 v32 v237 v238 v239 v240 v241 v242 v243 v244 v245 v246 v247 v248 v249 v250 v251 v252 v253 v254 v255 v256 v257 v258 v259 v260 v261 v262 v263 v264 v265 v266 v267 v268 v269 v270 v271 v272 v273 v274 v275 v276 v277 v278 v279 v280 v281 v282 v283 v284 v285 v286 v287 v288 v289 v290 v291 v292 v293 v294 v295 v296 v297 v298 v299 v300 v301 v302 v303 v304 v305 v306 v307 v308 v309 v310 v311 v312 v313 v314 v315 v316 v317 v318 : Value) (w' : World), SC w w' A m n ab cb O I x (m * n) → K ⟨#[.int .i64 m, .int .i64 n, u2, u3, u4, u5, v6, u7, .pointer (some ⟨A.bb, 0, none⟩), u9, .pointer (some ⟨A.ob, 0, none⟩), .pointer (some ⟨A.ib, 0, none⟩), u12, .pointer (some ⟨ab, 0, none⟩), .pointer (some ⟨ab + 1, 0, none⟩), .pointer (some ⟨ab + 1 + 1, 0, none⟩), u16, u17, .bool true, u19, u20, u21, u22, u23, u24, u25, u26, u27, .bool (runTo (taskOf x) O I (m * n)), .pointer (some ⟨cb, 0, none⟩), v30, v31, v32, u33, u34, u35, u36, u37, u38, u39, u40, u41, u42, u43, u44, u45, u46, u47, u48, u49, u50, u51, u52, u53, u54, u55, u56, u57, u58, u59, u60, u61, u62, u63, u64, u65, u66, u67, u68, u69, u70, u71, u72, u73, u74, u75, u76, u77, u78, u79, u80, u81, u82, u83, u84, u85, u86, u87, u88, u89, u90, u91, u92, u93, u94, u95, u96, u97, u98, u99, u100, u101, u102, u103, u104, u105, u106, u107, u108, u109, u110, u111, u112, u113, u114, u115, u116, u117, u118, u119, u120, u121, u122, u123, u124, u125, u126, u127, u128, u129, u130, u131, u132, u133, u134, u135, u136, u137, u138, u139, u140, u141, u142, u143, u144, u145, u146, u147, u148, u149, u150, u151, u152, u153, u154, u155, u156, u157, u158, u159, u160, u161, u162, u163, u164, u165, u166, u167, u168, u169, u170, u171, u172, u173, u174, u175, u176, u177, u178, u179, u180, u181, u182, u183, u184, u185, u186, u187, u188, u189, u190, u191, u192, u193, u194, u195, u196, u197, u198, u199, u200, u201, u202, u203, u204, u205, u206, u207, u208, u209, u210, u211, u212, u213, u214, u215, u216, u217, u218, u219, u220, u221, u222, u223, u224, u225, u226, u227, u228, u229, u230, u231, u232, u233, u234, u235, u236, v237, v238, v239, v240, v241, v242, v243, v244, v245, v246, v247, v248, v249, v250, v251, v252, v253, v254, v255, v256, v257, v258, v259, v260, v261, v262, v263, v264, v265, v266, v267, v268, v269, v270, v271, v272, v273, v274, v275, v276, v277, v278, v279, v280, v281, v282, v283, v284, v285, v286, v287, v288, v289, v290, v291, v292, v293, v294, v295, v296, v297, v298, v299, v300, v301, v302, v303, v304, v305, v306, v307, v308, v309, v310, v311, v312, v313, v314, v315, v316, v317, v318, u319, u320, u321, u322, u323, u324, u325, u326, u327, u328, u329, u330, u331, u332, u333, u334, u335, u336, u337, u338, u339, u340, u341, u342, u343, u344, u345, u346, u347, u348, u349, u350], []⟩ w') :
    Code.wp Try.prog (bsPiece 5) (Exit.then K Q') ⟨#[.int .i64 m, .int .i64 n, u2, u3, u4, u5, u6, u7, .pointer (some ⟨A.bb, 0, none⟩), u9, .pointer (some ⟨A.ob, 0, none⟩), .pointer (some ⟨A.ib, 0, none⟩), u12, .pointer (some ⟨ab, 0, none⟩), .pointer (some ⟨ab + 1, 0, none⟩), .pointer (some ⟨ab + 1 + 1, 0, none⟩), u16, u17, .bool true, u19, u20, u21, u22, u23, u24, u25, u26, u27, .bool false, .pointer (some ⟨cb, 0, none⟩), .int .i64 0, u31, u32, u33, u34, u35, u36, u37, u38, u39, u40, u41, u42, u43, u44, u45, u46, u47, u48, u49, u50, u51, u52, u53, u54, u55, u56, u57, u58, u59, u60, u61, u62, u63, u64, u65, u66, u67, u68, u69, u70, u71, u72, u73, u74, u75, u76, u77, u78, u79, u80, u81, u82, u83, u84, u85, u86, u87, u88, u89, u90, u91, u92, u93, u94, u95, u96, u97, u98, u99, u100, u101, u102, u103, u104, u105, u106, u107, u108, u109, u110, u111, u112, u113, u114, u115, u116, u117, u118, u119, u120, u121, u122, u123, u124, u125, u126, u127, u128, u129, u130, u131, u132, u133, u134, u135, u136, u137, u138, u139, u140, u141, u142, u143, u144, u145, u146, u147, u148, u149, u150, u151, u152, u153, u154, u155, u156, u157, u158, u159, u160, u161, u162, u163, u164, u165, u166, u167, u168, u169, u170, u171, u172, u173, u174, u175, u176, u177, u178, u179, u180, u181, u182, u183, u184, u185, u186, u187, u188, u189, u190, u191, u192, u193, u194, u195, u196, u197, u198, u199, u200, u201, u202, u203, u204, u205, u206, u207, u208, u209, u210, u211, u212, u213, u214, u215, u216, u217, u218, u219, u220, u221, u222, u223, u224, u225, u226, u227, u228, u229, u230, u231, u232, u233, u234, u235, u236, u237, u238, u239, u240, u241, u242, u243, u244, u245, u246, u247, u248, u249, u250, u251, u252, u253, u254, u255, u256, u257, u258, u259, u260, u261, u262, u263, u264, u265, u266, u267, u268, u269, u270, u271, u272, u273, u274, u275, u276, u277, u278, u279, u280, u281, u282, u283, u284, u285, u286, u287, u288, u289, u290, u291, u292, u293, u294, u295, u296, u297, u298, u299, u300, u301, u302, u303, u304, u305, u306, u307, u308, u309, u310, u311, u312, u313, u314, u315, u316, u317, u318, u319, u320, u321, u322, u323, u324, u325, u326, u327, u328, u329, u330, u331, u332, u333, u334, u335, u336, u337, u338, u339, u340, u341, u342, u343, u344, u345, u346, u347, u348, u349, u350], []⟩ w3 := by
  conv => arg 2; whnf
  have hn1 := h.sa.bs.dims.2.2.2
  have hn3 := h.sa.bs.dims.2.1
  have hm4 := h.sa.bs.dims.1
  obtain ⟨mn, hmn, hmn12⟩ : ∃ mn : Nat, mn = m * n ∧ mn ≤ 12 := ⟨_, rfl, by have : m * n ≤ 4 * 3 := Nat.mul_le_mul hm4 hn3; omega⟩
  have wmn : IntKind.i64.wrap ((m : Int) * (n : Int)) = (mn : Int) := by
    rw [show (m : Int) * (n : Int) = (mn : Int) by rw [hmn]; simp]
    exact IntWalk.i64_in _ (by omega)
  rw [← hmn] at hK
  have HMN := hide hmn
  have HS0 := hide h
  clear hmn h
  go_wp2
  go_loopw [28, 30] (fun ru i wr => ∃ k : Nat, k ≤ mn ∧ i = .int .i64 k ∧ ru = .bool (runTo (taskOf x) O I k) ∧ SC w wr A m n ab cb O I x k) (fun _ i _ => mn - (intOf i).toNat)
  case atStart => exact ⟨0, by omega, rfl, rfl, HS0.out⟩
  clear HS0
  case round =>
    obtain ⟨k, hk, rfl, rfl, hs⟩ := hrel
    by_cases hlt : k < mn
    · obtain ⟨i, j, hij, hi, hj⟩ : ∃ i j : Nat, i * n + j = k ∧ i < m ∧ j < n := by
        refine ⟨k / n, k % n, by rw [Nat.mul_comm]; exact Nat.div_add_mod k n, ?_, Nat.mod_lt _ (by omega)⟩
        rw [Nat.div_lt_iff_lt_mul (by omega), ← HMN.out]; exact hlt
      have ei : IntKind.i64.wrap ((k : Int) / (n : Int)) = (i : Int) := by
        have : k / n = i := by rw [← hij, Nat.add_comm, Nat.add_mul_div_right _ _ (by omega), Nat.div_eq_of_lt hj]; omega
        rw [← Int.natCast_ediv, this]
        exact IntWalk.i64_in _ (by have := hm4; omega)
      have ej : (k : Int).tmod (n : Int) = (j : Int) := by
        have : k % n = j := by rw [← hij, Nat.add_comm, Nat.add_mul_mod_self_right, Nat.mod_eq_of_lt hj]
        rw [← Int.ofNat_tmod, this]
      obtain ⟨r, hr, hT, hsl, hp, hpo, hpi⟩ := hs.sa.at hi hj
      rw [hij] at hsl hp hpo hpi
      obtain ⟨t, ev, hin, hon, hoff⟩ : ∃ (t : TaskV) (ev : Value), inV (slotOf O I k) = .tuple #[.agg #[.int .i64 t.1, .bool t.2.1, .int .i64 t.2.2], ev] ∧ (O.getD k false = true → t = I.getD k (0, false, 0) ∧ ev = .nilIface) ∧ (O.getD k false = false → t = (0, false, 0) ∧ ev = errV 7) := by
        cases ho : O.getD k false
        · rw [slotOf_off ho]; exact ⟨(0, false, 0), errV 7, rfl, fun h => (by cases h), fun _ => ⟨rfl, rfl⟩⟩
        · rw [slotOf_on ho]; exact ⟨_, _, rfl, fun _ => ⟨rfl, rfl⟩, fun h => (by cases h)⟩
      have HP := fun (w' : World) (b : Below wr.heap.size wr w') => In_yes (hs.sa.bs.bt.below b) hr hT hsl
      rw [hin] at HP
      have HP := hide HP
      have HON := hide hon
      have HOFF := hide hoff
      have HS := hide hs
      have hcb := hs.bc.lt
      clear hs hon hoff hin hsl hT hr
      obtain ⟨t0, t1, t2⟩ := t
      have hkz : ¬ n = 0 := by omega
      go_upto_region 60 with (fail)
      refine R60 hkz ei ej HP _ _ _ _ _ _ _ _ _ _ _ _ _ _ _ _ _ _ _ _ _ _ _ _ _ _ _ _ _ _ _ _ _ _ _ _ _ _ _ _ _ _ _ _ _ _ _ _ _ _ _ _ _ _ _ _ _ _ _ _ _ _ _ _ _ _ _ _ _ _ _ _ _ _ _ _ _ _ _ _ _ _ _ _ _ _ _ _ _ _ _ _ _ _ _ _ _ _ _ _ _ _ _ _ _ _ _ _ _ _ _ _ _ _ _ _ _ _ _ _ _ _ _ _ _ _ _ _ _ _ _ _ _ _ _ _ _ _ _ _ _ _ _ _ _ _ _ _ _ _ _ _ _ _ _ _ _ _ _ _ _ _ _ _ _ _ _ _ _ _ _ _ _ _ _ _ _ _ _ _ _ _ _ _ _ _ _ _ _ _ _ _ _ _ _ _ _ _ _ _ _ _ _ _ _ _ _ _ _ _ _ _ _ _ _ _ _ _ _ _ _ _ _ _ _ _ _ _ _ _ _ _ _ _ _ _ _ _ _ _ _ _ _ _ _ _ _ _ _ _ _ _ _ _ _ _ _ _ _ _ _ _ _ _ _ _ _ _ _ _ _ _ _ _ _ _ _ _ _ _ _ _ _ _ _ _ _ _ _ _ _ _ _ _ _ _ _ _ _ _ _ _ _ _ _ _ _ _ _ _ _ _ _ _ _ _ _ _ _ _ _ _ _ _ _ _ _ _ _ _ _ _ _ _ _ _ _ _ _ _ _ _ _ _ _ _ _ _ ?_
      intro v244 v245 v246 v247 v248 v249 v250 v251 v252 v253 v254 v255 xb wc hb hbk hxb
      dsimp only
      dsimp only at hbk
      have HSC := hide (HS.out.below hb)
      have HBX := hide hbk
      have hcx : cb < xb := by omega
      have x0 := hbk.get (j := 0) rfl
      have x1 := hbk.get (j := 1) rfl
      have x2 := hbk.get (j := 2) rfl
      have o0 := boolAt HSC.out.sa.bs.bo hpo
      obtain ⟨i0, i1, i2⟩ := taskAt HSC.out.sa.bs.bi hpi
      clear hbk HS HP ei ej hb
      by_cases hO : O.getD k false = true
      · obtain ⟨hI, rfl⟩ := HON.out hO
        rw [← hI] at i0 i1 i2
        dsimp only at i0 i1 i2
        rw [hO] at o0
        go_upto_region 61 with (fail)
        go_quiet (fail)
        have q0 := HSC.out.sa.bt.get (j := 0) rfl
        have q1 := HSC.out.sa.bt.get (j := 1) rfl
        have q2 := HSC.out.sa.bt.get (j := 2) rfl
        have htp : 0 ≤ t0 := by
          have hg : I[k]? = some (t0, t1, t2) := by rw [hI, List.getD_eq_getElem?_getD, List.getElem?_eq_getElem hpi]; rfl
          exact HSC.out.sa.bs.jobs _ (List.mem_of_getElem? hg)
        obtain ⟨tn, rfl⟩ : ∃ tn : Nat, t0 = tn := ⟨t0.toNat, by omega⟩
        generalize htx : taskOf x = tx at *
        obtain ⟨a0, a1, a2⟩ := tx
        have HTX := hide htx
        clear htx
        have hc : ((tn : Int) = a0 ∧ t1 = a1 ∧ t2 = a2) ∨ (¬ (tn : Int) = a0) ∨ ((tn : Int) = a0 ∧ ¬ t1 = a1) ∨ ((tn : Int) = a0 ∧ t1 = a1 ∧ ¬ t2 = a2) := by
          by_cases h1 : (tn : Int) = a0
          · by_cases h2 : t1 = a1
            · by_cases h3 : t2 = a2
              · exact .inl ⟨h1, h2, h3⟩
              · exact .inr (.inr (.inr ⟨h1, h2, h3⟩))
            · exact .inr (.inr (.inl ⟨h1, h2⟩))
          · exact .inr (.inl h1)
        generalize hru : runTo (a0, a1, a2) O I k = ru
        have HRU := hide hru
        clear hru
        have f1 : (0 : Int) ≤ (k : Int) ∧ (k : Int) < 12 := by omega
        obtain ⟨f1, f2⟩ := f1
        have h12 : (k : Int) ≤ 12 := by omega
        have HI := hide hI
        clear hI HON HOFF
        by_cases h5 : tn % 5 < 3
        · obtain ⟨cc, c0, c1⟩ := HSC.out.count h5
          have fc := HSC.out.bc.fz (tn % 5)
          have HC := hide (cnt_hit hO HI.out h5)
          have HSH := fun nq => (HSC.out.below (below_drewN (Below.refl _ _) nq)).hit h5 HC.out
          have HSH := hide HSH
          generalize (cntTo O I k).getD (tn % 5) 0 = c at *
          cases ru
          · rcases hc with ⟨rfl, rfl, rfl⟩ | hc | ⟨rfl, hc⟩ | ⟨rfl, rfl, hc⟩
            · go_upto_region 63 with (fail)
              go_quiet (fail)
              go_upto_region 64 with (fail)
              go_wp2
              go_roundw
              case rel => exact ⟨k + 1, by omega, by go_num, congrArg Value.bool (by rw [runTo_succ, HTX.out, HRU.out, slotOf_on hO, ← HI.out, taskEq]; simp), HSH.out _⟩
              case measure => (simp [intOf]; try omega)
            · have hc' : ¬ _ = _ := fun e => hc e.symm
              go_upto_region 63 with (fail)
              go_quiet (fail)
              go_upto_region 64 with (fail)
              go_wp2
              go_roundw
              case rel => exact ⟨k + 1, by omega, by go_num, congrArg Value.bool (by rw [runTo_succ, HTX.out, HRU.out, slotOf_on hO, ← HI.out, taskEq]; simp [hc]), HSH.out _⟩
              case measure => (simp [intOf]; try omega)
            · have hc' : ¬ _ = _ := fun e => hc e.symm
              go_upto_region 63 with (fail)
              go_quiet (fail)
              go_upto_region 64 with (fail)
              go_wp2
              go_roundw
              case rel => exact ⟨k + 1, by omega, by go_num, congrArg Value.bool (by rw [runTo_succ, HTX.out, HRU.out, slotOf_on hO, ← HI.out, taskEq]; simp [hc]), HSH.out _⟩
              case measure => (simp [intOf]; try omega)
            · have hc' : ¬ _ = _ := fun e => hc e.symm
              go_upto_region 63 with (fail)
              go_quiet (fail)
              go_upto_region 64 with (fail)
              go_wp2
              go_roundw
              case rel => exact ⟨k + 1, by omega, by go_num, congrArg Value.bool (by rw [runTo_succ, HTX.out, HRU.out, slotOf_on hO, ← HI.out, taskEq]; simp [hc]), HSH.out _⟩
              case measure => (simp [intOf]; try omega)
          · go_upto_region 63 with (fail)
            go_quiet (fail)
            go_upto_region 64 with (fail)
            go_wp2
            go_roundw
            case rel => exact ⟨k + 1, by omega, by go_num, congrArg Value.bool (by rw [runTo_succ, HTX.out, HRU.out]; rfl), HSH.out _⟩
            case measure => (simp [intOf]; try omega)
        · have HC := hide (cnt_miss hO HI.out h5)
          have HSH : ∀ nq, SC w (wc.drewN nq) A m n ab cb O I x (k + 1) := fun nq => ⟨(HSC.out.below (below_drewN (Below.refl _ _) nq)).sa, by rw [HC.out]; exact (HSC.out.below (below_drewN (Below.refl _ _) nq)).bc, HSC.out.hc⟩
          have HSH := hide HSH
          cases ru
          · rcases hc with ⟨rfl, rfl, rfl⟩ | hc | ⟨rfl, hc⟩ | ⟨rfl, rfl, hc⟩
            · go_upto_region 63 with (fail)
              go_quiet (fail)
              go_upto_region 64 with (fail)
              go_wp2
              go_roundw
              case rel => exact ⟨k + 1, by omega, by go_num, congrArg Value.bool (by rw [runTo_succ, HTX.out, HRU.out, slotOf_on hO, ← HI.out, taskEq]; simp), HSH.out _⟩
              case measure => (simp [intOf]; try omega)
            · have hc' : ¬ _ = _ := fun e => hc e.symm
              go_upto_region 63 with (fail)
              go_quiet (fail)
              go_upto_region 64 with (fail)
              go_wp2
              go_roundw
              case rel => exact ⟨k + 1, by omega, by go_num, congrArg Value.bool (by rw [runTo_succ, HTX.out, HRU.out, slotOf_on hO, ← HI.out, taskEq]; simp [hc]), HSH.out _⟩
              case measure => (simp [intOf]; try omega)
            · have hc' : ¬ _ = _ := fun e => hc e.symm
              go_upto_region 63 with (fail)
              go_quiet (fail)
              go_upto_region 64 with (fail)
              go_wp2
              go_roundw
              case rel => exact ⟨k + 1, by omega, by go_num, congrArg Value.bool (by rw [runTo_succ, HTX.out, HRU.out, slotOf_on hO, ← HI.out, taskEq]; simp [hc]), HSH.out _⟩
              case measure => (simp [intOf]; try omega)
            · have hc' : ¬ _ = _ := fun e => hc e.symm
              go_upto_region 63 with (fail)
              go_quiet (fail)
              go_upto_region 64 with (fail)
              go_wp2
              go_roundw
              case rel => exact ⟨k + 1, by omega, by go_num, congrArg Value.bool (by rw [runTo_succ, HTX.out, HRU.out, slotOf_on hO, ← HI.out, taskEq]; simp [hc]), HSH.out _⟩
              case measure => (simp [intOf]; try omega)
          · go_upto_region 63 with (fail)
            go_quiet (fail)
            go_upto_region 64 with (fail)
            go_wp2
            go_roundw
            case rel => exact ⟨k + 1, by omega, by go_num, congrArg Value.bool (by rw [runTo_succ, HTX.out, HRU.out]; rfl), HSH.out _⟩
            case measure => (simp [intOf]; try omega)
      · have hO : O.getD k false = false := by simpa using hO
        obtain ⟨h0, rfl⟩ := HOFF.out hO
        cases h0
        rw [hO] at o0
        rw [errV_pos (by decide)]
        have HE := fun w' => hide (same_err 7 7 w' (by decide))
        rw [show decide ((7 : Int) = 7) = true by decide] at HE
        go_upto_region 61 with (fail)
        go_quiet ((go_at_call 9; exact Calls.quiet_of_same ((HE _).out.mono fun e w'' h => ⟨h.1, h.2.symm⟩)))
        have HRS : Hid (runTo (taskOf x) O I (k + 1) = runTo (taskOf x) O I k) := by
          show _ = _
          rw [runTo_succ, slotOf_off hO]; simp [noSlot]
        have HCS : Hid (cntTo O I (k + 1) = cntTo O I k) := by
          show _ = _
          rw [cntTo_succ, slotOf_off hO]; rfl
        rw [← HRS.out]
        cases hru : runTo (taskOf x) O I (k + 1)
        · have HRU := hide hru
          clear hru
          go_upto_region 63 with (fail)
          go_quiet (fail)
          go_wp2
          go_roundw
          case rel => exact ⟨k + 1, by omega, by go_num, by rw [HRU.out], (HSC.out.below (below_drewN (Below.refl _ _) _)).sa, by rw [HCS.out]; exact (HSC.out.below (below_drewN (Below.refl _ _) _)).bc, HSC.out.hc⟩
          case measure => (simp [intOf]; try omega)
        · have HRU := hide hru
          clear hru
          go_upto_region 63 with (fail)
          go_quiet (fail)
          go_wp2
          go_roundw
          case rel => exact ⟨k + 1, by omega, by go_num, by rw [HRU.out], (HSC.out.below (below_drewN (Below.refl _ _) _)).sa, by rw [HCS.out]; exact (HSC.out.below (below_drewN (Below.refl _ _) _)).bc, HSC.out.hc⟩
          case measure => (simp [intOf]; try omega)
    · obtain rfl : k = mn := by omega
      have HS := hide hs
      clear hs
      go_wp2
      exact HS.out
end Go.Proofs.Ytidhjpjeehoglaa
