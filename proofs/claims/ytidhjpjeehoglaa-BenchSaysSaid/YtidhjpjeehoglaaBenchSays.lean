/- 'BenchSays' returns true for every input and leaves its arguments as they were; no condition. -/
import Derived.Test.YtidhjpjeehoglaaBenchP6

import Derived.Deep.CutBlock
namespace Go.Proofs.Ytidhjpjeehoglaa
open Go.RowKit Go.ChangeShapes Go.WideShapes Go.ChangeAt
set_option maxRecDepth 100000 in
set_option maxHeartbeats 8000000 in
theorem BenchSays_walk (p s : Int) (ao : Option Addr) (cap : Nat) (l : List ActV) (w : World) (hl : l.length ≤ maxLen) (hok : ∀ x ∈ l, ActOk x) (hs : Sl 7 encA w ao l) :
    Calls Try.prog 3 #[.int .i64 p, .int .i64 s, .slice ao l.length cap] w fun e w' => e = .returned (.bool true) ∧ Below w.heap.size w w' := by
  go_enter Try.func3, Try.ntmps3
  go_wp2_with fail
  refine (seats_any _).mono ?_
  rintro e w0 ⟨rfl, hb0⟩
  go_wp2_with fail
  refine (LightActs_any ao cap l w0 hl hok (hs.later hb0 (Nat.le_refl _))).mono ?_
  rintro e w1 ⟨bb, rfl, rfl, hli⟩
  cases bb
  · clear hli
    go_wp2
    go_ret
    exact ⟨rfl, hb0⟩
  · obtain ⟨hl80, hli⟩ := hli rfl
    have HOKL := hide hok; clear hok hli
    by_cases hr : 1 ≤ p ∧ p ≤ 4 ∧ 1 ≤ s ∧ s ≤ 3
    · obtain ⟨m, rfl⟩ : ∃ m : Nat, p = m := ⟨p.toNat, by omega⟩
      obtain ⟨n, rfl⟩ : ∃ n : Nat, s = n := ⟨s.toNat, by omega⟩
      obtain ⟨r1, r2, r3, r4⟩ := hr
      have e1 : decide ((m : Int) < 1) = false := by simp; omega
      have e2 : decide (4 < (m : Int)) = false := by simp; omega
      have e3 : decide ((n : Int) < 1) = false := by simp; omega
      have e4 : decide (3 < (n : Int)) = false := by simp; omega
      go_wp2_with fail
      refine (NewBench_ok m n _ (by omega) (by omega) (by omega) (by omega)).mono ?_
      rintro e w1 ⟨bb, lb, cp, rs, rfl, hb1, hrs, hbt⟩
      have hT := BS_start hb0 hb1 hrs hbt
      obtain ⟨A, hA⟩ : ∃ A : Bad, A = ⟨w0.heap.size, bb, lb, cp, rs, w1.heap.size, w1.heap.size + 1⟩ := ⟨_, rfl⟩
      rw [← hA] at hT
      have q1 : w1.heap.size + 1 = A.ib := by rw [hA]
      have q2 : w1.heap.size = A.ob := by rw [hA]
      obtain rfl : bb = A.bb := by rw [hA]
      have HIB : Hid (A.ob + 1 = A.ib) := by show _ = _; rw [hA]
      clear hA hrs hbt hb0 hb1
      go_wp2
      clear q1 q2
      go_loopw [12] (fun i wr => ∃ k : Nat, k ≤ l.length ∧ i = .int .i64 k ∧ ∃ O I, BS w wr A m n O I) (fun i _ => l.length - (intOf i).toNat)
      case atStart => exact ⟨0, by omega, rfl, _, _, hT⟩
      clear hT
      case round =>
        obtain ⟨k, hk, rfl, O, I, hT⟩ := hrel
        by_cases hlt : k < l.length
        · have HT := hide hT
          clear hT
          go_upto_block 1 with (fail)
          rw [HIB.out]
          refine B1 HT.out HOKL hs hlt hl80 _ _ _ _ _ _ _ _ _ _ _ _ _ _ _ _ _ _ _ _ _ _ _ _ _ _ _ _ _ _ _ _ _ _ _ _ _ _ _ _ _ _ _ _ _ _ _ _ _ _ _ _ _ _ _ _ _ _ _ _ _ _ _ _ _ _ _ _ _ _ _ _ _ _ _ _ _ _ _ _ _ _ _ _ _ _ _ _ _ _ _ _ _ _ _ _ _ _ _ _ _ _ _ _ _ _ _ _ _ _ _ _ _ _ _ _ _ _ _ _ _ _ _ _ _ _ _ _ _ _ _ _ _ _ _ _ _ _ _ _ _ _ _ _ _ _ _ _ _ _ _ _ _ _ _ _ _ _ _ _ _ _ _ _ _ _ _ _ _ _ _ _ _ _ _ _ _ _ _ _ _ _ _ _ _ _ _ _ _ _ _ _ _ _ _ _ _ _ _ _ _ _ _ _ _ _ _ _ _ _ _ _ _ _ _ _ _ _ _ _ _ _ _ _ _ _ _ _ _ _ _ _ _ _ _ _ _ _ _ _ _ _ _ _ _ _ _ _ _ _ _ _ _ _ _ _ _ _ _ _ _ _ _ _ _ _ _ _ _ _ _ _ _ _ _ _ _ _ _ _ _ _ _ _ _ _ _ _ _ _ _ _ _ _ _ _ _ _ _ _ _ _ _ _ _ _ _ _ _ _ _ _ _ _ _ _ _ _ _ _ _ _ _ _ _ _ _ _ _ _ _ _ _ _ _ _ _ _ _ _ _ _ _ _ ?_
          intro v6 v13 v14 v15 v16 v17 v18 v19 v20 v21 v22 v23 v24 v25 v26 v27 v28 v29 v30 v31 v32 v33 v34 v35 v83 v84 v85 v86 v87 v88 v89 v90 v91 v92 v93 v94 v95 v96 v97 v98 v99 v100 v101 v102 v103 v104 v105 v106 v107 v108 v109 v110 v111 v112 v113 v114 v115 v116 v117 v118 v119 v120 v121 v122 v123 v124 v125 v126 v127 v128 v129 v130 v131 v132 v133 v134 v135 v136 v137 v138 v139 v140 v141 v142 v143 v144 v145 v146 v147 v148 v149 v150 v151 v152 v153 v154 v155 v156 v157 v158 v159 v160 v161 v162 v163 v164 v165 v166 v167 v168 v169 v170 v171 v172 v173 v174 v175 v176 v177 v178 v179 v180 v181 v182 v183 v184 v185 v186 v187 v188 v189 v190 v191 v192 v193 v194 v195 v196 v197 v198 v199 v200 v201 v202 v203 v204 v205 v206 v207 v208 v209 v210 v211 v212 v213 v214 v215 v216 v217 v218 v219 v220 v221 v222 v223 v224 v225 v226 v227 v228 v229 v230 v231 v232 v233 v234 v235 v236 v237 v238 v239 v240 v241 v242 v243 v244 v245 v246 v247 v248 v249 v250 v251 v252 v253 v254 v255 v256 v257 v258 v259 v260 v261 v262 v263 v264 v265 v266 v267 v268 v269 v270 v271 v272 v273 v274 v275 v276 v277 v278 v279 v280 v281 v282 v283 v284 v285 v286 v287 v288 v289 v290 v291 v292 v293 v294 v295 v296 v297 v298 v299 v300 v301 v302 v303 v304 v305 v306 v307 v308 v309 v310 v311 v312 v313 v314 v315 v316 v317 v318 v319 v320 v321 v322 v323 v324 v325 v326 v327 v328 v329 v330 v331 v332 v333 v334 v335 v336 v337 v338 v339 v340 v341 v342 v343 v344 v345 v346 v347 v348 v349 v350 w5 hw
          dsimp only
          rw [← HIB.out]
          obtain ⟨O', I', hT'⟩ := hw
          have HT' := hide hT'
          clear hT' HT
          go_wp2
          go_roundw
          case rel => exact ⟨k + 1, by omega, by go_num, O', I', HT'.out⟩
          case measure => (simp [intOf]; try omega)
        · have HB := hide hT.bel
          clear hT
          go_wp2
          go_ret
          exact ⟨rfl, HB.out⟩
    · have HN := hide (same_any 1 1 w0 (by decide))
      rw [show decide ((1 : Int) = 1) = true by decide] at HN
      go_wp2_with fail
      refine (NewBench_bad p s _ hr).mono ?_
      rintro e w1 ⟨rfl, rfl⟩
      by_cases g1 : p < 1
      · have e1 : decide (p < 1) = true := by simpa using g1
        go_wp2_with fail
        refine HN.out.mono ?_
        rintro e w1 ⟨rfl, rfl⟩
        go_wp2
        go_ret
        exact ⟨rfl, hb0⟩
      · have e1 : decide (p < 1) = false := by simpa using g1
        by_cases g2 : 4 < p
        · have e2 : decide (4 < p) = true := by simpa using g2
          go_wp2_with fail
          refine HN.out.mono ?_
          rintro e w1 ⟨rfl, rfl⟩
          go_wp2
          go_ret
          exact ⟨rfl, hb0⟩
        · have e2 : decide (4 < p) = false := by simpa using g2
          by_cases g3 : s < 1
          · have e3 : decide (s < 1) = true := by simpa using g3
            go_wp2_with fail
            refine HN.out.mono ?_
            rintro e w1 ⟨rfl, rfl⟩
            go_wp2
            go_ret
            exact ⟨rfl, hb0⟩
          · have e3 : decide (s < 1) = false := by simpa using g3
            have e4 : decide (3 < s) = true := by simp; omega
            go_wp2_with fail
            refine HN.out.mono ?_
            rintro e w1 ⟨rfl, rfl⟩
            go_wp2
            go_ret
            exact ⟨rfl, hb0⟩
set_option maxRecDepth 100000 in
theorem BenchSays_lifted (os : Os) (started : os.Started) (H : Type) (enc : TypeId × Value → H) :
    ReturnsInHanded {} Try.checked os 3 .any (Rows.benchSaysSpec.pre6 enc Try.prog Try.f3 Rows.benchSaysRow.domain false) (Rows.benchSaysSpec.post enc Try.prog Try.f3 false true false false) := by
  refine returnsInHanded_of_change (C := Try.checked) own started (by kernel_rfl) Try.func3
    (ChangeSpec.witness6 (enc := enc) (C := Try.checked) false ⟨#[], #[.int .i64 0, .int .i64 0, .slice none 0 0], []⟩ 8 (by kernel_rfl) (by kernel_rfl) (by kernel_rfl) (by kernel_rfl)) ?_
  intro W base args ds gs before hval0 hW hcnd _
  have hval : ∀ (j : Nat) t v, Try.f3.params[j]? = some t → args[j]? = some v → Value.okWide Try.prog W .any base t v := hval0
  have hW' := hW
  obtain ⟨p, q, hA0, hV, rfl, hfz, hnd⟩ := hW
  have hA : DataW.TrodAll enc Try.prog W 0 (fun _ => true) true Try.f3.params.toList args.toList ds p := hA0
  rw [Try.params3] at hA hval
  obtain ⟨v0, vs0, d0, ds0, p0, q0, hargs, rfl, rfl, h0, r0⟩ := trodAll_cons hA
  obtain ⟨v1, vs1, d1, ds1, p1, q1, rfl, rfl, rfl, h1, r1⟩ := trodAll_cons r0
  obtain ⟨v2, vs2, d2, ds2, p2, q2, rfl, rfl, rfl, h2, r2⟩ := trodAll_cons r1
  obtain ⟨rfl, rfl, rfl⟩ := trodAll_nil r2
  obtain rfl : args = #[v0, v1, v2] := by cases args; simp_all
  obtain ⟨rfl, rfl⟩ := trodVars_none hV
  have lt0 : ∀ x ∈ p0, x.block < W.heap.size := by obtain ⟨m, hm⟩ := h0; exact DataW.trod_lt m _ _ _ hm
  have k0 := hval 0 3 v0 rfl rfl
  have g0 := h0
  have lt1 : ∀ x ∈ p1, x.block < W.heap.size := by obtain ⟨m, hm⟩ := h1; exact DataW.trod_lt m _ _ _ hm
  have k1 := hval 1 3 v1 rfl rfl
  have g1 := h1
  have lt2 : ∀ x ∈ p2, x.block < W.heap.size := by obtain ⟨m, hm⟩ := h2; exact DataW.trod_lt m _ _ _ hm
  have k2 := hval 2 22 v2 rfl rfl
  have g2 := h2
  clear hA0 hval0
  obtain ⟨p, rfl, rfl, rfl, _⟩ := open_int Try.underlying3 k0 h0
  obtain ⟨s, rfl, rfl, rfl, _⟩ := open_int Try.underlying3 k1 h1
  obtain ⟨ao, ca, l, rfl, hs0, hm0, hok0⟩ := open_sl Try.underlying22 cells_act (by decide) el_act (okWide_slice Try.underlying22 k2) h2
  refine (BenchSays_walk p s ao ca l W hm0 hok0 hs0).mono fun e W' ⟨he, bel⟩ => ?_
  subst he
  exact ⟨_, rfl, _, _, _, [], _, [], hW', trodAll_mk1 (shut_bool Try.underlying4 _), (trodAll_cons_mk (Below.trod laidOut (by kernel_rfl) (of_decide_eq_true (by kernel_rfl)) g0 bel lt0) (trodAll_cons_mk (Below.trod laidOut (by kernel_rfl) (of_decide_eq_true (by kernel_rfl)) g1 bel lt1) (trodAll_cons_mk (Below.trod laidOut (by kernel_rfl) (of_decide_eq_true (by kernel_rfl)) g2 bel lt2) trodAll_mk0))), rfl, bel.frame _, fun h => by cases h⟩

theorem BenchSays_holds : Rows.BenchSaysSaid :=
  OpenClaim.holds_of_wide 3 Try.f3 rfl rfl rfl rfl rfl rfl rfl ⟨rfl, rfl, rfl, rfl, rfl⟩ rfl rfl rfl rfl rfl (by kernel_rfl) Try.func3 (by kernel_rfl)
    (of_decide_eq_true (by kernel_rfl)) (by unfold Func.isWrapper; first | (rw [if_pos (by decide +kernel)]; kernel_rfl) | (rw [if_neg (by decide +kernel)]; exact ⟨rfl, rfl⟩))
    (fun os started H enc _ => BenchSays_lifted os started H enc)
#print axioms BenchSays_holds
end Go.Proofs.Ytidhjpjeehoglaa
