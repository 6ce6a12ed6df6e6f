/- BenchSays' switch, by cases: room. -/
import Derived.Test.YtidhjpjeehoglaaBenchP2
namespace Go.Proofs.Ytidhjpjeehoglaa
open Go.RowKit Go.ChangeShapes Go.WideShapes Go.ChangeAt

theorem new_pl (w : World) (a b : Int) : (w.alloc (.cells #[.int .i64 a, .int .i64 b] 38)).cell? ⟨w.heap.size, 0, none⟩ = some (.int .i64 a) ∧ (w.alloc (.cells #[.int .i64 a, .int .i64 b] 38)).cell? ⟨w.heap.size, 1, none⟩ = some (.int .i64 b) :=
  ⟨new_task (cs := #[.int .i64 a, .int .i64 b]) (j := 0) rfl, new_task (cs := #[.int .i64 a, .int .i64 b]) (j := 1) rfl⟩
set_option maxRecDepth 100000 in
set_option maxHeartbeats 8000000 in
theorem S_def_out {w w3 : World} {A : Bad} {m n ab : Nat} {O : List Bool} {I : List TaskV} {x : ActV} (h : SA w w3 A m n ab O I x) (hk : (x.kind.toList == [112, 117, 116]) = false) (hk2 : (x.kind.toList == [102, 114, 101, 101]) = false)
    (ht : ¬ (0 ≤ x.a ∧ x.a < m))
    (u2 u3 u4 u5 u6 u7 u9 u12 u16 u17 u19 u20 u21 u22 u23 u24 u25 u26 u27 u28 u29 u30 u31 u32 u33 u34 u35 u36 u37 u38 u39 u40 u41 u42 u43 u44 u45 u46 u47 u48 u49 u50 u51 u52 u53 u54 u55 u56 u57 u58 u59 u60 u61 u62 u63 u64 u65 u66 u67 u68 u69 u70 u71 u72 u73 u74 u75 u76 u77 u78 u79 u80 u81 u82 u83 u84 u85 u86 u87 u88 u89 u90 u91 u92 u93 u94 u95 u96 u97 u98 u99 u100 u101 u102 u103 u104 u105 u106 u107 u108 u109 u110 u111 u112 u113 u114 u115 u116 u117 u118 u119 u120 u121 u122 u123 u124 u125 u126 u127 u128 u129 u130 u132 u133 u134 u135 u136 u137 u138 u139 u140 u141 u142 u143 u144 u145 u146 u147 u148 u149 u150 u151 u152 u153 u154 u155 u156 u157 u158 u159 u160 u161 u162 u163 u164 u165 u166 u167 u168 u169 u170 u171 u172 u173 u174 u175 u176 u177 u178 u179 u180 u181 u182 u183 u184 u185 u186 u187 u188 u189 u190 u191 u192 u193 u194 u195 u196 u197 u198 u199 u200 u201 u202 u203 u204 u205 u206 u207 u208 u209 u210 u211 u212 u213 u214 u215 u216 u217 u218 u219 u220 u221 u222 u223 u224 u225 u226 u227 u228 u229 u230 u231 u232 u233 u234 u235 u236 u237 u238 u239 u240 u241 u242 u243 u244 u245 u246 u247 u248 u249 u250 u251 u252 u253 u254 u255 u256 u257 u258 u259 u260 u261 u262 u263 u264 u265 u266 u267 u268 u269 u270 u271 u272 u273 u274 u275 u276 u277 u278 u279 u280 u281 u282 u283 u284 u285 u286 u287 u288 u289 u290 u291 u292 u293 u294 u295 u296 u297 u298 u299 u300 u301 u302 u303 u304 u305 u306 u307 u308 u309 u310 u311 u312 u313 u314 u315 u316 u317 u318 u319 u320 u321 u322 u323 u324 u325 u326 u327 u328 u329 u330 u331 u332 u333 u334 u335 u336 u337 u338 u339 u340 u341 u342 u343 u344 u345 u346 u347 u348 u349 u350 : Value) {K : Act → World → Prop} {Q' : Exit → Act → World → Prop} (hK : ∀ (v19 v20 v21 v22 v23 v24 v25 v26 v27 v132 v133 v134 v135 v136 v137 v138 v139 v140 v141 v142 v143 v144 v145 v146 v147 v148 v149 v150 v151 v152 v153 v154 v155 v156 v157 v158 v159 v160 v161 v162 v163 v164 v165 v166 v167 v168 v169 v170 v171 v172 v173 v174 v175 v176 v177 v178 v179 v180 v181 v182 v183 v184 v185 v186 v187 v188 v189 v190 v191 v192 v193 v194 v195 v196 v197 v198 v199 v200 v201 v202 v203 v204 v205 v206 v207 v208 v209 v210 v211 v212 v213 v214 v215 v216 v217 v218 v219 v220 v221 v222 v223 v224 v225 v226 v227 v228 v229 v230 v231 v232 v233 v234 v235 v236 : Value) (w' : World), SW w A m n ab x w' → K ⟨#[.int .i64 m, .int .i64 n, u2, u3, u4, u5, u6, u7, .pointer (some ⟨A.bb, 0, none⟩), u9, .pointer (some ⟨A.ob, 0, none⟩), .pointer (some ⟨A.ib, 0, none⟩), u12, .pointer (some ⟨ab, 0, none⟩), .pointer (some ⟨ab + 1, 0, none⟩), .pointer (some ⟨ab + 1 + 1, 0, none⟩), u16, u17, .bool true, v19, v20, v21, v22, v23, v24, v25, v26, v27, u28, u29, u30, u31, u32, u33, u34, u35, u36, u37, u38, u39, u40, u41, u42, u43, u44, u45, u46, u47, u48, u49, u50, u51, u52, u53, u54, u55, u56, u57, u58, u59, u60, u61, u62, u63, u64, u65, u66, u67, u68, u69, u70, u71, u72, u73, u74, u75, u76, u77, u78, u79, u80, u81, u82, u83, u84, u85, u86, u87, u88, u89, u90, u91, u92, u93, u94, u95, u96, u97, u98, u99, u100, u101, u102, u103, u104, u105, u106, u107, u108, u109, u110, u111, u112, u113, u114, u115, u116, u117, u118, u119, u120, u121, u122, u123, u124, u125, u126, u127, u128, u129, u130, .string x.kind, v132, v133, v134, v135, v136, v137, v138, v139, v140, v141, v142, v143, v144, v145, v146, v147, v148, v149, v150, v151, v152, v153, v154, v155, v156, v157, v158, v159, v160, v161, v162, v163, v164, v165, v166, v167, v168, v169, v170, v171, v172, v173, v174, v175, v176, v177, v178, v179, v180, v181, v182, v183, v184, v185, v186, v187, v188, v189, v190, v191, v192, v193, v194, v195, v196, v197, v198, v199, v200, v201, v202, v203, v204, v205, v206, v207, v208, v209, v210, v211, v212, v213, v214, v215, v216, v217, v218, v219, v220, v221, v222, v223, v224, v225, v226, v227, v228, v229, v230, v231, v232, v233, v234, v235, v236, u237, u238, u239, u240, u241, u242, u243, u244, u245, u246, u247, u248, u249, u250, u251, u252, u253, u254, u255, u256, u257, u258, u259, u260, u261, u262, u263, u264, u265, u266, u267, u268, u269, u270, u271, u272, u273, u274, u275, u276, u277, u278, u279, u280, u281, u282, u283, u284, u285, u286, u287, u288, u289, u290, u291, u292, u293, u294, u295, u296, u297, u298, u299, u300, u301, u302, u303, u304, u305, u306, u307, u308, u309, u310, u311, u312, u313, u314, u315, u316, u317, u318, u319, u320, u321, u322, u323, u324, u325, u326, u327, u328, u329, u330, u331, u332, u333, u334, u335, u336, u337, u338, u339, u340, u341, u342, u343, u344, u345, u346, u347, u348, u349, u350], []⟩ w') : Code.wp Try.prog (bsPiece 2) (Exit.then K Q') ⟨#[.int .i64 m, .int .i64 n, u2, u3, u4, u5, u6, u7, .pointer (some ⟨A.bb, 0, none⟩), u9, .pointer (some ⟨A.ob, 0, none⟩), .pointer (some ⟨A.ib, 0, none⟩), u12, .pointer (some ⟨ab, 0, none⟩), .pointer (some ⟨ab + 1, 0, none⟩), .pointer (some ⟨ab + 1 + 1, 0, none⟩), u16, u17, .bool true, u19, u20, u21, u22, u23, u24, u25, u26, u27, u28, u29, u30, u31, u32, u33, u34, u35, u36, u37, u38, u39, u40, u41, u42, u43, u44, u45, u46, u47, u48, u49, u50, u51, u52, u53, u54, u55, u56, u57, u58, u59, u60, u61, u62, u63, u64, u65, u66, u67, u68, u69, u70, u71, u72, u73, u74, u75, u76, u77, u78, u79, u80, u81, u82, u83, u84, u85, u86, u87, u88, u89, u90, u91, u92, u93, u94, u95, u96, u97, u98, u99, u100, u101, u102, u103, u104, u105, u106, u107, u108, u109, u110, u111, u112, u113, u114, u115, u116, u117, u118, u119, u120, u121, u122, u123, u124, u125, u126, u127, u128, u129, u130, .string x.kind, u132, u133, u134, u135, u136, u137, u138, u139, u140, u141, u142, u143, u144, u145, u146, u147, u148, u149, u150, u151, u152, u153, u154, u155, u156, u157, u158, u159, u160, u161, u162, u163, u164, u165, u166, u167, u168, u169, u170, u171, u172, u173, u174, u175, u176, u177, u178, u179, u180, u181, u182, u183, u184, u185, u186, u187, u188, u189, u190, u191, u192, u193, u194, u195, u196, u197, u198, u199, u200, u201, u202, u203, u204, u205, u206, u207, u208, u209, u210, u211, u212, u213, u214, u215, u216, u217, u218, u219, u220, u221, u222, u223, u224, u225, u226, u227, u228, u229, u230, u231, u232, u233, u234, u235, u236, u237, u238, u239, u240, u241, u242, u243, u244, u245, u246, u247, u248, u249, u250, u251, u252, u253, u254, u255, u256, u257, u258, u259, u260, u261, u262, u263, u264, u265, u266, u267, u268, u269, u270, u271, u272, u273, u274, u275, u276, u277, u278, u279, u280, u281, u282, u283, u284, u285, u286, u287, u288, u289, u290, u291, u292, u293, u294, u295, u296, u297, u298, u299, u300, u301, u302, u303, u304, u305, u306, u307, u308, u309, u310, u311, u312, u313, u314, u315, u316, u317, u318, u319, u320, u321, u322, u323, u324, u325, u326, u327, u328, u329, u330, u331, u332, u333, u334, u335, u336, u337, u338, u339, u340, u341, u342, u343, u344, u345, u346, u347, u348, u349, u350], []⟩ w3 := by
  conv => arg 2; whnf
  have HSA := hide h
  have p0 := h.ba.get (j := 1) rfl
  have hbl := h.ba.lt
  have hb4 := ba w3 (.cells #[.int .i64 0, .int .i64 0] 38)
  have p1 := cell_later hb4 p0
  have HP := hide (Room_none x.a (h.bs.bt.below hb4) (by rw [h.bs.lr]; exact ht))
  rw [errV_pos (by decide)] at HP
  obtain ⟨d0, d1⟩ := new_pl w3 0 0
  have hs4 : w3.heap.size < (w3.alloc (.cells #[.int .i64 0, .int .i64 0] 38)).heap.size := by simp
  have HB4 := hide hb4
  clear h hb4
  by_cases h1 : x.a < 0
  · have e1 : decide (x.a < 0) = true := by simpa using h1
    go_wp2_with fail
    refine HP.out.mono ?_
    rintro e w5 ⟨rfl, b5⟩
    have HS := fun w' => hide (same_err 5 5 w' (by decide))
    rw [show decide ((5 : Int) = 5) = true by decide] at HS
    have q0 := cell_later (b5.trans ((ba w5 (.cells #[.int .i64 0, .int .i64 0] 38)).mono b5.size)) d0
    have q1 := cell_later (b5.trans ((ba w5 (.cells #[.int .i64 0, .int .i64 0] 38)).mono b5.size)) d1
    obtain ⟨g0, g1⟩ := new_pl w5 0 0
    have hb5 := HB4.out.trans (b5.mono HB4.out.size)
    clear HP p0 p1 d0 d1 hs4
    go_wp2_with fail
    refine (HS _).out.mono ?_
    rintro e w6 ⟨rfl, rfl⟩
    clear HS
    go_wp2
    exact ⟨_, _, HSA.out.below (hb5.alloc hb5.size _)⟩
  · have e1 : decide (x.a < 0) = false := by simpa using h1
    have e2 : decide ((m : Int) ≤ x.a) = true := by simp; omega
    go_wp2_with fail
    refine HP.out.mono ?_
    rintro e w5 ⟨rfl, b5⟩
    have HS := fun w' => hide (same_err 5 5 w' (by decide))
    rw [show decide ((5 : Int) = 5) = true by decide] at HS
    have q0 := cell_later (b5.trans ((ba w5 (.cells #[.int .i64 0, .int .i64 0] 38)).mono b5.size)) d0
    have q1 := cell_later (b5.trans ((ba w5 (.cells #[.int .i64 0, .int .i64 0] 38)).mono b5.size)) d1
    obtain ⟨g0, g1⟩ := new_pl w5 0 0
    have hb5 := HB4.out.trans (b5.mono HB4.out.size)
    clear HP p0 p1 d0 d1 hs4
    go_wp2_with fail
    refine (HS _).out.mono ?_
    rintro e w6 ⟨rfl, rfl⟩
    clear HS
    go_wp2
    exact ⟨_, _, HSA.out.below (hb5.alloc hb5.size _)⟩
/-- what the reference finds -/
def wantL (a : Nat) (L : Int) : List Value := if L < 0 then [.int .i64 0, .int .i64 0] else [.int .i64 a, .int .i64 L]
def fOf (L : Int) : Int := if L < 0 then 8 else 0
set_option maxRecDepth 100000 in
set_option maxHeartbeats 8000000 in
theorem S_def_in {w w3 : World} {A : Bad} {m n ab : Nat} {O : List Bool} {I : List TaskV} {x : ActV} (h : SA w w3 A m n ab O I x) (hk : (x.kind.toList == [112, 117, 116]) = false) (hk2 : (x.kind.toList == [102, 114, 101, 101]) = false) {a : Nat} (ea : x.a = a) (ha : a < m)
    (u2 u3 u4 u5 u6 u7 u9 u12 u16 u17 u19 u20 u21 u22 u23 u24 u25 u26 u27 u28 u29 u30 u31 u32 u33 u34 u35 u36 u37 u38 u39 u40 u41 u42 u43 u44 u45 u46 u47 u48 u49 u50 u51 u52 u53 u54 u55 u56 u57 u58 u59 u60 u61 u62 u63 u64 u65 u66 u67 u68 u69 u70 u71 u72 u73 u74 u75 u76 u77 u78 u79 u80 u81 u82 u83 u84 u85 u86 u87 u88 u89 u90 u91 u92 u93 u94 u95 u96 u97 u98 u99 u100 u101 u102 u103 u104 u105 u106 u107 u108 u109 u110 u111 u112 u113 u114 u115 u116 u117 u118 u119 u120 u121 u122 u123 u124 u125 u126 u127 u128 u129 u130 u132 u133 u134 u135 u136 u137 u138 u139 u140 u141 u142 u143 u144 u145 u146 u147 u148 u149 u150 u151 u152 u153 u154 u155 u156 u157 u158 u159 u160 u161 u162 u163 u164 u165 u166 u167 u168 u169 u170 u171 u172 u173 u174 u175 u176 u177 u178 u179 u180 u181 u182 u183 u184 u185 u186 u187 u188 u189 u190 u191 u192 u193 u194 u195 u196 u197 u198 u199 u200 u201 u202 u203 u204 u205 u206 u207 u208 u209 u210 u211 u212 u213 u214 u215 u216 u217 u218 u219 u220 u221 u222 u223 u224 u225 u226 u227 u228 u229 u230 u231 u232 u233 u234 u235 u236 u237 u238 u239 u240 u241 u242 u243 u244 u245 u246 u247 u248 u249 u250 u251 u252 u253 u254 u255 u256 u257 u258 u259 u260 u261 u262 u263 u264 u265 u266 u267 u268 u269 u270 u271 u272 u273 u274 u275 u276 u277 u278 u279 u280 u281 u282 u283 u284 u285 u286 u287 u288 u289 u290 u291 u292 u293 u294 u295 u296 u297 u298 u299 u300 u301 u302 u303 u304 u305 u306 u307 u308 u309 u310 u311 u312 u313 u314 u315 u316 u317 u318 u319 u320 u321 u322 u323 u324 u325 u326 u327 u328 u329 u330 u331 u332 u333 u334 u335 u336 u337 u338 u339 u340 u341 u342 u343 u344 u345 u346 u347 u348 u349 u350 : Value) {K : Act → World → Prop} {Q' : Exit → Act → World → Prop} (hK : ∀ (v19 v20 v21 v22 v23 v24 v25 v26 v27 v132 v133 v134 v135 v136 v137 v138 v139 v140 v141 v142 v143 v144 v145 v146 v147 v148 v149 v150 v151 v152 v153 v154 v155 v156 v157 v158 v159 v160 v161 v162 v163 v164 v165 v166 v167 v168 v169 v170 v171 v172 v173 v174 v175 v176 v177 v178 v179 v180 v181 v182 v183 v184 v185 v186 v187 v188 v189 v190 v191 v192 v193 v194 v195 v196 v197 v198 v199 v200 v201 v202 v203 v204 v205 v206 v207 v208 v209 v210 v211 v212 v213 v214 v215 v216 v217 v218 v219 v220 v221 v222 v223 v224 v225 v226 v227 v228 v229 v230 v231 v232 v233 v234 v235 v236 : Value) (w' : World), SW w A m n ab x w' → K ⟨#[.int .i64 m, .int .i64 n, u2, u3, u4, u5, u6, u7, .pointer (some ⟨A.bb, 0, none⟩), u9, .pointer (some ⟨A.ob, 0, none⟩), .pointer (some ⟨A.ib, 0, none⟩), u12, .pointer (some ⟨ab, 0, none⟩), .pointer (some ⟨ab + 1, 0, none⟩), .pointer (some ⟨ab + 1 + 1, 0, none⟩), u16, u17, .bool true, v19, v20, v21, v22, v23, v24, v25, v26, v27, u28, u29, u30, u31, u32, u33, u34, u35, u36, u37, u38, u39, u40, u41, u42, u43, u44, u45, u46, u47, u48, u49, u50, u51, u52, u53, u54, u55, u56, u57, u58, u59, u60, u61, u62, u63, u64, u65, u66, u67, u68, u69, u70, u71, u72, u73, u74, u75, u76, u77, u78, u79, u80, u81, u82, u83, u84, u85, u86, u87, u88, u89, u90, u91, u92, u93, u94, u95, u96, u97, u98, u99, u100, u101, u102, u103, u104, u105, u106, u107, u108, u109, u110, u111, u112, u113, u114, u115, u116, u117, u118, u119, u120, u121, u122, u123, u124, u125, u126, u127, u128, u129, u130, .string x.kind, v132, v133, v134, v135, v136, v137, v138, v139, v140, v141, v142, v143, v144, v145, v146, v147, v148, v149, v150, v151, v152, v153, v154, v155, v156, v157, v158, v159, v160, v161, v162, v163, v164, v165, v166, v167, v168, v169, v170, v171, v172, v173, v174, v175, v176, v177, v178, v179, v180, v181, v182, v183, v184, v185, v186, v187, v188, v189, v190, v191, v192, v193, v194, v195, v196, v197, v198, v199, v200, v201, v202, v203, v204, v205, v206, v207, v208, v209, v210, v211, v212, v213, v214, v215, v216, v217, v218, v219, v220, v221, v222, v223, v224, v225, v226, v227, v228, v229, v230, v231, v232, v233, v234, v235, v236, u237, u238, u239, u240, u241, u242, u243, u244, u245, u246, u247, u248, u249, u250, u251, u252, u253, u254, u255, u256, u257, u258, u259, u260, u261, u262, u263, u264, u265, u266, u267, u268, u269, u270, u271, u272, u273, u274, u275, u276, u277, u278, u279, u280, u281, u282, u283, u284, u285, u286, u287, u288, u289, u290, u291, u292, u293, u294, u295, u296, u297, u298, u299, u300, u301, u302, u303, u304, u305, u306, u307, u308, u309, u310, u311, u312, u313, u314, u315, u316, u317, u318, u319, u320, u321, u322, u323, u324, u325, u326, u327, u328, u329, u330, u331, u332, u333, u334, u335, u336, u337, u338, u339, u340, u341, u342, u343, u344, u345, u346, u347, u348, u349, u350], []⟩ w') : Code.wp Try.prog (bsPiece 2) (Exit.then K Q') ⟨#[.int .i64 m, .int .i64 n, u2, u3, u4, u5, u6, u7, .pointer (some ⟨A.bb, 0, none⟩), u9, .pointer (some ⟨A.ob, 0, none⟩), .pointer (some ⟨A.ib, 0, none⟩), u12, .pointer (some ⟨ab, 0, none⟩), .pointer (some ⟨ab + 1, 0, none⟩), .pointer (some ⟨ab + 1 + 1, 0, none⟩), u16, u17, .bool true, u19, u20, u21, u22, u23, u24, u25, u26, u27, u28, u29, u30, u31, u32, u33, u34, u35, u36, u37, u38, u39, u40, u41, u42, u43, u44, u45, u46, u47, u48, u49, u50, u51, u52, u53, u54, u55, u56, u57, u58, u59, u60, u61, u62, u63, u64, u65, u66, u67, u68, u69, u70, u71, u72, u73, u74, u75, u76, u77, u78, u79, u80, u81, u82, u83, u84, u85, u86, u87, u88, u89, u90, u91, u92, u93, u94, u95, u96, u97, u98, u99, u100, u101, u102, u103, u104, u105, u106, u107, u108, u109, u110, u111, u112, u113, u114, u115, u116, u117, u118, u119, u120, u121, u122, u123, u124, u125, u126, u127, u128, u129, u130, .string x.kind, u132, u133, u134, u135, u136, u137, u138, u139, u140, u141, u142, u143, u144, u145, u146, u147, u148, u149, u150, u151, u152, u153, u154, u155, u156, u157, u158, u159, u160, u161, u162, u163, u164, u165, u166, u167, u168, u169, u170, u171, u172, u173, u174, u175, u176, u177, u178, u179, u180, u181, u182, u183, u184, u185, u186, u187, u188, u189, u190, u191, u192, u193, u194, u195, u196, u197, u198, u199, u200, u201, u202, u203, u204, u205, u206, u207, u208, u209, u210, u211, u212, u213, u214, u215, u216, u217, u218, u219, u220, u221, u222, u223, u224, u225, u226, u227, u228, u229, u230, u231, u232, u233, u234, u235, u236, u237, u238, u239, u240, u241, u242, u243, u244, u245, u246, u247, u248, u249, u250, u251, u252, u253, u254, u255, u256, u257, u258, u259, u260, u261, u262, u263, u264, u265, u266, u267, u268, u269, u270, u271, u272, u273, u274, u275, u276, u277, u278, u279, u280, u281, u282, u283, u284, u285, u286, u287, u288, u289, u290, u291, u292, u293, u294, u295, u296, u297, u298, u299, u300, u301, u302, u303, u304, u305, u306, u307, u308, u309, u310, u311, u312, u313, u314, u315, u316, u317, u318, u319, u320, u321, u322, u323, u324, u325, u326, u327, u328, u329, u330, u331, u332, u333, u334, u335, u336, u337, u338, u339, u340, u341, u342, u343, u344, u345, u346, u347, u348, u349, u350], []⟩ w3 := by
  conv => arg 2; whnf
  have HSA := hide h
  have p0 := h.ba.get (j := 1) rfl
  rw [ea] at p0
  have hbl := h.ba.lt
  have hb4 := ba w3 (.cells #[.int .i64 0, .int .i64 0] 38)
  have p1 := cell_later hb4 p0
  have hbk : Bk (w3.alloc (.cells #[.int .i64 0, .int .i64 0] 38)) w3.heap.size (wantL a (lowF (fun j => !O.getD (a * n + j) false) n 0)) := Bk.new rfl
  have HP := fun w' (k : Below w3.heap.size w3 w') => Room_yes (h.bs.bt.below k) (tab_row (O := O) (I := I) (n := n) ha)
  have hn1 := h.bs.dims.2.2.2
  have hn3 := h.bs.dims.2.1
  have hm4 := h.bs.dims.1
  have HPos := hide (fun j (hj : j < n) => h.bs.pos ha hj)
  have HP := hide HP
  have HBK := hide hbk
  have HB4 := hide hb4
  have e1 : decide ((a : Int) < 0) = false := by simp
  have e2 : decide ((m : Int) ≤ (a : Int)) = false := by simp; omega
  clear h hb4 hbk
  go_wp2
  go_loopw [23, 25] (fun f i wr => ∃ d : Nat, d ≤ n ∧ i = .int .i64 ((n : Int) - 1 - d) ∧ f = .int .i64 (fOf (lowF (fun j => !O.getD (a * n + j) false) n d)) ∧ Bk wr w3.heap.size (wantL a (lowF (fun j => !O.getD (a * n + j) false) n d)) ∧ Below w3.heap.size w3 wr) (fun _ i _ => (intOf i + 1).toNat)
  case atStart => exact ⟨0, by omega, by simp, rfl, HBK.out, HB4.out⟩
  case round =>
    obtain ⟨d, hd, rfl, rfl, hbk, hbw⟩ := hrel
    have p0 := cell_later hbw p0
    by_cases hlt : d < n
    · obtain ⟨j, hj⟩ : ∃ j : Nat, (n : Int) - 1 - d = j ∧ j = n - d - 1 := ⟨n - d - 1, by omega, rfl⟩
      have hjn : j < n := by omega
      have hp := HPos.out j hjn
      have hjd := hj.2
      rw [hj.1]
      have hL : lowF (fun j => !O.getD (a * n + j) false) n (d + 1) = if (!O.getD (a * n + j) false) then (j : Int) else lowF (fun j => !O.getD (a * n + j) false) n d := by
        rw [hjd]; rfl
      have o0 := boolAt ((HSA.out.bs.below hbw).bo) (k := a * n + j) (by rw [HSA.out.bs.lo]; exact hp)
      have HL := hide hL
      have HBW := hide hbw
      have HBK1 := hide hbk
      clear hL hbw hbk
      obtain ⟨q, hq⟩ : ∃ q : Nat, q = a * n := ⟨_, rfl⟩
      obtain ⟨pos, hpos⟩ : ∃ pos : Nat, pos = q + j := ⟨_, rfl⟩
      have ep : a * n + j = pos := by rw [hpos, hq]
      have wm : IntKind.i64.wrap ((a : Int) * (n : Int)) = (q : Int) := by
        rw [show (a : Int) * (n : Int) = (q : Int) by rw [hq]; simp]
        exact IntWalk.i64_in _ (by omega)
      have wa : IntKind.i64.wrap ((q : Int) + (j : Int)) = (pos : Int) := by
        rw [show (q : Int) + (j : Int) = (pos : Int) by rw [hpos]; simp]
        exact IntWalk.i64_in _ (by omega)
      rw [ep] at hp o0
      have EP := hide ep
      have HJ := hide hj
      clear hq hpos ep hj hjd
      cases hoo : O.getD pos false
      · rw [hoo] at o0
        obtain ⟨w0, w1, hwl⟩ : ∃ v0 v1, wantL a (lowF (fun j => !O.getD (a * n + j) false) n d) = [v0, v1] := by unfold wantL; split <;> exact ⟨_, _, rfl⟩
        have g0 := HBK1.out.get (j := 0) (by rw [hwl]; rfl)
        have g1 := HBK1.out.get (j := 1) (by rw [hwl]; rfl)
        have z0 := HBK1.out.fz 0
        have z1 := HBK1.out.fz 1
        have HWL := hide hwl
        clear hwl
        have HL2 : Hid (lowF (fun j => !O.getD (a * n + j) false) n (d + 1) = j) := by
          show _ = _
          rw [HL.out, EP.out, hoo]; rfl
        have j1 : (j : Int) < 1000 := by omega
        have wj : IntKind.i64.wrap ((j : Int) - 1) = (j : Int) - 1 := IntWalk.i64_in _ (by omega)
        go_wp2
        go_roundw
        case rel =>
          refine ⟨d + 1, by omega, congrArg (Value.int .i64) (by have := HJ.out.1; omega), ?_, ?_, ?_⟩
          · rw [HL2.out]; unfold fOf; rw [if_neg (by omega)]
          · rw [HL2.out]
            have := (HBK1.out.set (k := 0) (u := w0) (.int .i64 a) (by rw [HWL.out]; rfl)).set (k := 1) (u := w1) (.int .i64 j) (by rw [HWL.out]; rfl)
            rw [HWL.out] at this
            unfold wantL; rw [if_neg (by omega)]
            exact this
          · exact (HBW.out.setCell (Nat.le_refl _) _).setCell (Nat.le_refl _) _
        case measure => (simp [intOf]; try omega)
      · rw [hoo] at o0
        have HL2 : Hid (lowF (fun j => !O.getD (a * n + j) false) n (d + 1) = lowF (fun j => !O.getD (a * n + j) false) n d) := by
          show _ = _
          rw [HL.out, EP.out, hoo]; rfl
        have wj : IntKind.i64.wrap ((j : Int) - 1) = (j : Int) - 1 := IntWalk.i64_in _ (by omega)
        go_wp2
        go_roundw
        case rel => exact ⟨d + 1, by omega, congrArg (Value.int .i64) (by have := HJ.out.1; omega), by rw [HL2.out], by rw [HL2.out]; exact HBK1.out, HBW.out⟩
        case measure => (simp [intOf]; try omega)
    · obtain rfl : d = n := by omega
      have hr : roomV a ((List.range d).map fun j => slotOf O I (a * d + j)) = .tuple #[.agg (wantL a (lowF (fun j => !O.getD (a * d + j) false) d d)).toArray, errV (fOf (lowF (fun j => !O.getD (a * d + j) false) d d))] := by
        unfold roomV; rw [freeAt_tab, ← lowF_first]; unfold wantL fOf; split <;> rfl
      have hx := (HP.out wr hbw)
      rw [hr] at hx
      have HX := hide hx
      obtain ⟨w0, w1, hwl, ho0, ho1⟩ : ∃ v0 v1 : Int, wantL a (lowF (fun j => !O.getD (a * d + j) false) d d) = [.int .i64 v0, .int .i64 v1] ∧ 0 ≤ v0 ∧ 0 ≤ v1 := by unfold wantL; split; exact ⟨_, _, rfl, by decide, by decide⟩; exact ⟨_, _, rfl, by omega, by omega⟩
      generalize hff : fOf (lowF (fun j => !O.getD (a * d + j) false) d d) = ff at *
      have hfp : 0 ≤ ff := by rw [← hff]; unfold fOf; split <;> decide
      rw [hwl] at HX hbk
      clear hff hwl hx hr HPos HBK
      have g0 := hbk.get (j := 0) rfl
      have g1 := hbk.get (j := 1) rfl
      have hb1 := hbk.lt
      have HBK := hide hbk
      have HBW := hide hbw
      clear hbk hbw HP
      have wj : ¬ (0 : Int) ≤ (d : Int) - 1 - d := by omega
      go_wp2_with fail
      refine HX.out.mono ?_
      rintro e w5 ⟨rfl, b5⟩
      have HS := fun w' => hide (same_any ff ff w' hfp)
      rw [show decide (ff = ff) = true by simp] at HS
      have q0 := cell_later (b5.trans ((ba w5 (.cells #[.int .i64 w0, .int .i64 w1] 38)).mono b5.size)) g0
      have q1 := cell_later (b5.trans ((ba w5 (.cells #[.int .i64 w0, .int .i64 w1] 38)).mono b5.size)) g1
      obtain ⟨g0, g1⟩ := new_pl w5 w0 w1
      have hb5 := HBW.out.trans (b5.mono HBW.out.size)
      clear HX
      go_wp2_with fail
      refine (HS _).out.mono ?_
      rintro e w6 ⟨rfl, rfl⟩
      clear HS
      go_wp2
      exact ⟨_, _, HSA.out.below (hb5.alloc hb5.size _)⟩
end Go.Proofs.Ytidhjpjeehoglaa
