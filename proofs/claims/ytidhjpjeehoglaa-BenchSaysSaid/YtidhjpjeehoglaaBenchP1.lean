/- BenchSays' switch, by cases: put. -/
import Derived.Test.YtidhjpjeehoglaaBenchSt
namespace Go.Proofs.Ytidhjpjeehoglaa
open Go.RowKit Go.ChangeShapes Go.WideShapes Go.ChangeAt

def pieceAt (n : Nat) : Code → Option Code
  | .block k c => if k = n then some (.block k c) else pieceAt n c
  | .seq a b => match pieceAt n a with
    | some c => some c
    | none => pieceAt n b
  | .loop c => pieceAt n c
  | .scope c => pieceAt n c
  | .cond _ a b => match pieceAt n a with
    | some c => some c
    | none => pieceAt n b
  | _ => none
noncomputable def bsPiece (n : Nat) : Code := ((Try.f3.body.bind (pieceAt n)).getD .skip)
/-- what holds behind the switch -/
def SW (w0 : World) (A : Bad) (m n ab : Nat) (x : ActV) (w : World) : Prop := ∃ O I, SA w0 w A m n ab O I x

theorem SA.below {w0 w w' : World} {A : Bad} {m n ab : Nat} {O : List Bool} {I : List TaskV} {x : ActV} (h : SA w0 w A m n ab O I x) (k : Below w.heap.size w w') : SA w0 w' A m n ab O I x :=
  ⟨h.bs.below k, h.ba.later k, h.bp.later k, h.bt.later k, h.hi⟩
theorem SA.put {w0 w w1 : World} {A : Bad} {m n ab : Nat} {O : List Bool} {I : List TaskV} {x : ActV} (h : SA w0 w A m n ab O I x) {a b r : Nat} (ha : a < m) (hb : b < n) (hr : A.rs[a]? = some r) (k : KeptBut (fun q => q = r) w w1)
    (hbt : BT w1 A.base A.bb A.lb A.cap n A.rs ((tab O I m n).set a (((List.range n).map fun j => slotOf O I (a * n + j)).set b (true, taskOf x)))) :
    SA w0 (setT (w1.setCell ⟨A.ob, a * n + b, none⟩ (.bool true)) A.ib (a * n + b) (taskOf x)) A m n ab (O.set (a * n + b) true) (I.set (a * n + b) (taskOf x)) x := by
  have h1 := h.bs.hb.2.2 a r hr
  have h2 := h.bs.ho
  have h3 := h.hi
  have k1 : KeptBut (fun q => q ≤ A.ib) w w1 := k.mono fun q e => by omega
  have k2 := k1.setCell (p := ⟨A.ob, a * n + b, none⟩) (show A.ob ≤ A.ib by omega) (.bool true)
  have k3 := k2.trans ((setT_kept (w1.setCell ⟨A.ob, a * n + b, none⟩ (.bool true)) A.ib (a * n + b) (taskOf x)).mono fun q e => by omega)
  exact ⟨h.bs.put ha hb hr k hbt (taskOf_pos x), h.ba.kept k3 (by omega), h.bp.kept k3 (by omega), h.bt.kept k3 (by omega), h.hi⟩
theorem SA.free {w0 w w1 : World} {A : Bad} {m n ab : Nat} {O : List Bool} {I : List TaskV} {x : ActV} (h : SA w0 w A m n ab O I x) {a b r : Nat} (ha : a < m) (hb : b < n) (hr : A.rs[a]? = some r) (k : KeptBut (fun q => q = r) w w1)
    (hbt : BT w1 A.base A.bb A.lb A.cap n A.rs ((tab O I m n).set a (((List.range n).map fun j => slotOf O I (a * n + j)).set b (false, 0, false, 0)))) :
    SA w0 (w1.setCell ⟨A.ob, a * n + b, none⟩ (.bool false)) A m n ab (O.set (a * n + b) false) I x := by
  have h1 := h.bs.hb.2.2 a r hr
  have h2 := h.bs.ho
  have h3 := h.hi
  have k1 : KeptBut (fun q => q ≤ A.ib) w w1 := k.mono fun q e => by omega
  have k2 := k1.setCell (p := ⟨A.ob, a * n + b, none⟩) (show A.ob ≤ A.ib by omega) (.bool false)
  exact ⟨h.bs.free ha hb hr k hbt, h.ba.kept k2 (by omega), h.bp.kept k2 (by omega), h.bt.kept k2 (by omega), h.hi⟩

set_option maxRecDepth 100000 in
set_option maxHeartbeats 8000000 in
theorem S_put_no {w w3 : World} {A : Bad} {m n ab : Nat} {O : List Bool} {I : List TaskV} {x : ActV} (h : SA w w3 A m n ab O I x) (hk : (x.kind.toList == [112, 117, 116]) = true)
    (ht : ¬ (0 ≤ x.a ∧ x.a < m ∧ 0 ≤ x.b ∧ x.b < n))
    (u2 u3 u4 u5 u6 u7 u9 u12 u17 u19 u20 u21 u22 u23 u24 u25 u26 u27 u28 u29 u30 u31 u32 u33 u34 u35 u36 u37 u38 u39 u40 u41 u42 u43 u44 u45 u46 u47 u48 u49 u50 u51 u52 u53 u54 u55 u56 u57 u58 u59 u60 u61 u62 u63 u64 u65 u66 u67 u68 u69 u70 u71 u72 u73 u74 u75 u76 u77 u78 u79 u80 u81 u82 u83 u84 u85 u86 u87 u88 u89 u90 u91 u92 u93 u94 u95 u96 u97 u98 u99 u100 u101 u102 u103 u104 u105 u106 u107 u108 u109 u110 u111 u112 u113 u114 u115 u116 u117 u118 u119 u120 u121 u122 u123 u124 u125 u126 u127 u128 u129 u130 u132 u133 u134 u135 u136 u137 u138 u139 u140 u141 u142 u143 u144 u145 u146 u147 u148 u149 u150 u151 u152 u153 u154 u155 u156 u157 u158 u159 u160 u161 u162 u163 u164 u165 u166 u167 u168 u169 u170 u171 u172 u173 u174 u175 u176 u177 u178 u179 u180 u181 u182 u183 u184 u185 u186 u187 u188 u189 u190 u191 u192 u193 u194 u195 u196 u197 u198 u199 u200 u201 u202 u203 u204 u205 u206 u207 u208 u209 u210 u211 u212 u213 u214 u215 u216 u217 u218 u219 u220 u221 u222 u223 u224 u225 u226 u227 u228 u229 u230 u231 u232 u233 u234 u235 u236 u237 u238 u239 u240 u241 u242 u243 u244 u245 u246 u247 u248 u249 u250 u251 u252 u253 u254 u255 u256 u257 u258 u259 u260 u261 u262 u263 u264 u265 u266 u267 u268 u269 u270 u271 u272 u273 u274 u275 u276 u277 u278 u279 u280 u281 u282 u283 u284 u285 u286 u287 u288 u289 u290 u291 u292 u293 u294 u295 u296 u297 u298 u299 u300 u301 u302 u303 u304 u305 u306 u307 u308 u309 u310 u311 u312 u313 u314 u315 u316 u317 u318 u319 u320 u321 u322 u323 u324 u325 u326 u327 u328 u329 u330 u331 u332 u333 u334 u335 u336 u337 u338 u339 u340 u341 u342 u343 u344 u345 u346 u347 u348 u349 u350 : Value) {K : Act → World → Prop} {Q' : Exit → Act → World → Prop} (hK : ∀ (v19 v20 v21 v22 v23 v24 v25 v26 v27 v132 v133 v134 v135 v136 v137 v138 v139 v140 v141 v142 v143 v144 v145 v146 v147 v148 v149 v150 v151 v152 v153 v154 v155 v156 v157 v158 v159 v160 v161 v162 v163 v164 v165 v166 v167 v168 v169 v170 v171 v172 v173 v174 v175 v176 v177 v178 v179 v180 v181 v182 v183 v184 v185 v186 v187 v188 v189 v190 v191 v192 v193 v194 v195 v196 v197 v198 v199 v200 v201 v202 v203 v204 v205 v206 v207 v208 v209 v210 v211 v212 v213 v214 v215 v216 v217 v218 v219 v220 v221 v222 v223 v224 v225 v226 v227 v228 v229 v230 v231 v232 v233 v234 v235 v236 : Value) (w' : World), SW w A m n ab x w' → K ⟨#[.int .i64 m, .int .i64 n, u2, u3, u4, u5, u6, u7, .pointer (some ⟨A.bb, 0, none⟩), u9, .pointer (some ⟨A.ob, 0, none⟩), .pointer (some ⟨A.ib, 0, none⟩), u12, .pointer (some ⟨ab, 0, none⟩), .pointer (some ⟨ab + 1, 0, none⟩), .pointer (some ⟨ab + 1 + 1, 0, none⟩), .bool false, u17, .bool true, v19, v20, v21, v22, v23, v24, v25, v26, v27, u28, u29, u30, u31, u32, u33, u34, u35, u36, u37, u38, u39, u40, u41, u42, u43, u44, u45, u46, u47, u48, u49, u50, u51, u52, u53, u54, u55, u56, u57, u58, u59, u60, u61, u62, u63, u64, u65, u66, u67, u68, u69, u70, u71, u72, u73, u74, u75, u76, u77, u78, u79, u80, u81, u82, u83, u84, u85, u86, u87, u88, u89, u90, u91, u92, u93, u94, u95, u96, u97, u98, u99, u100, u101, u102, u103, u104, u105, u106, u107, u108, u109, u110, u111, u112, u113, u114, u115, u116, u117, u118, u119, u120, u121, u122, u123, u124, u125, u126, u127, u128, u129, u130, .string x.kind, v132, v133, v134, v135, v136, v137, v138, v139, v140, v141, v142, v143, v144, v145, v146, v147, v148, v149, v150, v151, v152, v153, v154, v155, v156, v157, v158, v159, v160, v161, v162, v163, v164, v165, v166, v167, v168, v169, v170, v171, v172, v173, v174, v175, v176, v177, v178, v179, v180, v181, v182, v183, v184, v185, v186, v187, v188, v189, v190, v191, v192, v193, v194, v195, v196, v197, v198, v199, v200, v201, v202, v203, v204, v205, v206, v207, v208, v209, v210, v211, v212, v213, v214, v215, v216, v217, v218, v219, v220, v221, v222, v223, v224, v225, v226, v227, v228, v229, v230, v231, v232, v233, v234, v235, v236, u237, u238, u239, u240, u241, u242, u243, u244, u245, u246, u247, u248, u249, u250, u251, u252, u253, u254, u255, u256, u257, u258, u259, u260, u261, u262, u263, u264, u265, u266, u267, u268, u269, u270, u271, u272, u273, u274, u275, u276, u277, u278, u279, u280, u281, u282, u283, u284, u285, u286, u287, u288, u289, u290, u291, u292, u293, u294, u295, u296, u297, u298, u299, u300, u301, u302, u303, u304, u305, u306, u307, u308, u309, u310, u311, u312, u313, u314, u315, u316, u317, u318, u319, u320, u321, u322, u323, u324, u325, u326, u327, u328, u329, u330, u331, u332, u333, u334, u335, u336, u337, u338, u339, u340, u341, u342, u343, u344, u345, u346, u347, u348, u349, u350], []⟩ w') : Code.wp Try.prog (bsPiece 2) (Exit.then K Q') ⟨#[.int .i64 m, .int .i64 n, u2, u3, u4, u5, u6, u7, .pointer (some ⟨A.bb, 0, none⟩), u9, .pointer (some ⟨A.ob, 0, none⟩), .pointer (some ⟨A.ib, 0, none⟩), u12, .pointer (some ⟨ab, 0, none⟩), .pointer (some ⟨ab + 1, 0, none⟩), .pointer (some ⟨ab + 1 + 1, 0, none⟩), .bool false, u17, .bool true, u19, u20, u21, u22, u23, u24, u25, u26, u27, u28, u29, u30, u31, u32, u33, u34, u35, u36, u37, u38, u39, u40, u41, u42, u43, u44, u45, u46, u47, u48, u49, u50, u51, u52, u53, u54, u55, u56, u57, u58, u59, u60, u61, u62, u63, u64, u65, u66, u67, u68, u69, u70, u71, u72, u73, u74, u75, u76, u77, u78, u79, u80, u81, u82, u83, u84, u85, u86, u87, u88, u89, u90, u91, u92, u93, u94, u95, u96, u97, u98, u99, u100, u101, u102, u103, u104, u105, u106, u107, u108, u109, u110, u111, u112, u113, u114, u115, u116, u117, u118, u119, u120, u121, u122, u123, u124, u125, u126, u127, u128, u129, u130, .string x.kind, u132, u133, u134, u135, u136, u137, u138, u139, u140, u141, u142, u143, u144, u145, u146, u147, u148, u149, u150, u151, u152, u153, u154, u155, u156, u157, u158, u159, u160, u161, u162, u163, u164, u165, u166, u167, u168, u169, u170, u171, u172, u173, u174, u175, u176, u177, u178, u179, u180, u181, u182, u183, u184, u185, u186, u187, u188, u189, u190, u191, u192, u193, u194, u195, u196, u197, u198, u199, u200, u201, u202, u203, u204, u205, u206, u207, u208, u209, u210, u211, u212, u213, u214, u215, u216, u217, u218, u219, u220, u221, u222, u223, u224, u225, u226, u227, u228, u229, u230, u231, u232, u233, u234, u235, u236, u237, u238, u239, u240, u241, u242, u243, u244, u245, u246, u247, u248, u249, u250, u251, u252, u253, u254, u255, u256, u257, u258, u259, u260, u261, u262, u263, u264, u265, u266, u267, u268, u269, u270, u271, u272, u273, u274, u275, u276, u277, u278, u279, u280, u281, u282, u283, u284, u285, u286, u287, u288, u289, u290, u291, u292, u293, u294, u295, u296, u297, u298, u299, u300, u301, u302, u303, u304, u305, u306, u307, u308, u309, u310, u311, u312, u313, u314, u315, u316, u317, u318, u319, u320, u321, u322, u323, u324, u325, u326, u327, u328, u329, u330, u331, u332, u333, u334, u335, u336, u337, u338, u339, u340, u341, u342, u343, u344, u345, u346, u347, u348, u349, u350], []⟩ w3 := by
  conv => arg 2; whnf
  have HSA := hide h
  have p0 := h.bp.get (j := 0) rfl
  have p1 := h.bp.get (j := 1) rfl
  have t0 := h.bt.get (j := 0) rfl
  have t1 := h.bt.get (j := 1) rfl
  have t2 := h.bt.get (j := 2) rfl
  have HP := hide (Put_no x.a x.b (taskOf x).1 (taskOf x).2.2 (taskOf x).2.1 h.bs.bt (by rw [h.bs.lr]; exact ht))
  clear h
  go_wp2_with fail
  refine HP.out.mono ?_
  rintro e w1 ⟨rfl, b1⟩
  have HS := hide (same_any 5 5 w1 (by decide))
  rw [show decide ((5 : Int) = 5) = true by decide] at HS
  clear HP p0 p1 t0 t1 t2
  go_wp2_with fail
  refine HS.out.mono ?_
  rintro e w2 ⟨rfl, rfl⟩
  clear HS
  go_wp2
  exact ⟨_, _, HSA.out.below b1⟩

theorem SA.at {w w3 : World} {A : Bad} {m n ab : Nat} {O : List Bool} {I : List TaskV} {x : ActV} (h : SA w w3 A m n ab O I x) {a b : Nat} (ha : a < m) (hb : b < n) :
    ∃ r, A.rs[a]? = some r ∧ (tab O I m n)[a]? = some ((List.range n).map fun j => slotOf O I (a * n + j)) ∧ ((List.range n).map fun j => slotOf O I (a * n + j))[b]? = some (slotOf O I (a * n + b)) ∧ a * n + b < 12 ∧ a * n + b < O.length ∧ a * n + b < I.length := by
  obtain ⟨r, hr, _⟩ := h.bs.row ha
  have hp := h.bs.pos ha hb
  exact ⟨r, hr, tab_row ha, tab_slot hb, hp, by rw [h.bs.lo]; exact hp, by rw [h.bs.li]; exact hp⟩
theorem slot_on1 {O : List Bool} {I : List TaskV} {k : Nat} : (slotOf O I k).1 = O.getD k false := by
  unfold slotOf
  cases O.getD k false <;> rfl

set_option maxRecDepth 100000 in
set_option maxHeartbeats 8000000 in
theorem S_put_full {w w3 : World} {A : Bad} {m n ab : Nat} {O : List Bool} {I : List TaskV} {x : ActV} (h : SA w w3 A m n ab O I x) (hk : (x.kind.toList == [112, 117, 116]) = true) {a b : Nat} (ea : x.a = a) (eb : x.b = b) (ha : a < m) (hb : b < n) (ho : O.getD (a * n + b) false = true)
    (u2 u3 u4 u5 u6 u7 u9 u12 u19 u20 u21 u22 u23 u24 u25 u26 u27 u28 u29 u30 u31 u32 u33 u34 u35 u36 u37 u38 u39 u40 u41 u42 u43 u44 u45 u46 u47 u48 u49 u50 u51 u52 u53 u54 u55 u56 u57 u58 u59 u60 u61 u62 u63 u64 u65 u66 u67 u68 u69 u70 u71 u72 u73 u74 u75 u76 u77 u78 u79 u80 u81 u82 u83 u84 u85 u86 u87 u88 u89 u90 u91 u92 u93 u94 u95 u96 u97 u98 u99 u100 u101 u102 u103 u104 u105 u106 u107 u108 u109 u110 u111 u112 u113 u114 u115 u116 u117 u118 u119 u120 u121 u122 u123 u124 u125 u126 u127 u128 u129 u130 u132 u133 u134 u135 u136 u137 u138 u139 u140 u141 u142 u143 u144 u145 u146 u147 u148 u149 u150 u151 u152 u153 u154 u155 u156 u157 u158 u159 u160 u161 u162 u163 u164 u165 u166 u167 u168 u169 u170 u171 u172 u173 u174 u175 u176 u177 u178 u179 u180 u181 u182 u183 u184 u185 u186 u187 u188 u189 u190 u191 u192 u193 u194 u195 u196 u197 u198 u199 u200 u201 u202 u203 u204 u205 u206 u207 u208 u209 u210 u211 u212 u213 u214 u215 u216 u217 u218 u219 u220 u221 u222 u223 u224 u225 u226 u227 u228 u229 u230 u231 u232 u233 u234 u235 u236 u237 u238 u239 u240 u241 u242 u243 u244 u245 u246 u247 u248 u249 u250 u251 u252 u253 u254 u255 u256 u257 u258 u259 u260 u261 u262 u263 u264 u265 u266 u267 u268 u269 u270 u271 u272 u273 u274 u275 u276 u277 u278 u279 u280 u281 u282 u283 u284 u285 u286 u287 u288 u289 u290 u291 u292 u293 u294 u295 u296 u297 u298 u299 u300 u301 u302 u303 u304 u305 u306 u307 u308 u309 u310 u311 u312 u313 u314 u315 u316 u317 u318 u319 u320 u321 u322 u323 u324 u325 u326 u327 u328 u329 u330 u331 u332 u333 u334 u335 u336 u337 u338 u339 u340 u341 u342 u343 u344 u345 u346 u347 u348 u349 u350 : Value) {K : Act → World → Prop} {Q' : Exit → Act → World → Prop} (hK : ∀ (v19 v20 v21 v22 v23 v24 v25 v26 v27 v132 v133 v134 v135 v136 v137 v138 v139 v140 v141 v142 v143 v144 v145 v146 v147 v148 v149 v150 v151 v152 v153 v154 v155 v156 v157 v158 v159 v160 v161 v162 v163 v164 v165 v166 v167 v168 v169 v170 v171 v172 v173 v174 v175 v176 v177 v178 v179 v180 v181 v182 v183 v184 v185 v186 v187 v188 v189 v190 v191 v192 v193 v194 v195 v196 v197 v198 v199 v200 v201 v202 v203 v204 v205 v206 v207 v208 v209 v210 v211 v212 v213 v214 v215 v216 v217 v218 v219 v220 v221 v222 v223 v224 v225 v226 v227 v228 v229 v230 v231 v232 v233 v234 v235 v236 : Value) (w' : World), SW w A m n ab x w' → K ⟨#[.int .i64 m, .int .i64 n, u2, u3, u4, u5, u6, u7, .pointer (some ⟨A.bb, 0, none⟩), u9, .pointer (some ⟨A.ob, 0, none⟩), .pointer (some ⟨A.ib, 0, none⟩), u12, .pointer (some ⟨ab, 0, none⟩), .pointer (some ⟨ab + 1, 0, none⟩), .pointer (some ⟨ab + 1 + 1, 0, none⟩), .bool true, .int .i64 ((a * n + b : Nat) : Int), .bool true, v19, v20, v21, v22, v23, v24, v25, v26, v27, u28, u29, u30, u31, u32, u33, u34, u35, u36, u37, u38, u39, u40, u41, u42, u43, u44, u45, u46, u47, u48, u49, u50, u51, u52, u53, u54, u55, u56, u57, u58, u59, u60, u61, u62, u63, u64, u65, u66, u67, u68, u69, u70, u71, u72, u73, u74, u75, u76, u77, u78, u79, u80, u81, u82, u83, u84, u85, u86, u87, u88, u89, u90, u91, u92, u93, u94, u95, u96, u97, u98, u99, u100, u101, u102, u103, u104, u105, u106, u107, u108, u109, u110, u111, u112, u113, u114, u115, u116, u117, u118, u119, u120, u121, u122, u123, u124, u125, u126, u127, u128, u129, u130, .string x.kind, v132, v133, v134, v135, v136, v137, v138, v139, v140, v141, v142, v143, v144, v145, v146, v147, v148, v149, v150, v151, v152, v153, v154, v155, v156, v157, v158, v159, v160, v161, v162, v163, v164, v165, v166, v167, v168, v169, v170, v171, v172, v173, v174, v175, v176, v177, v178, v179, v180, v181, v182, v183, v184, v185, v186, v187, v188, v189, v190, v191, v192, v193, v194, v195, v196, v197, v198, v199, v200, v201, v202, v203, v204, v205, v206, v207, v208, v209, v210, v211, v212, v213, v214, v215, v216, v217, v218, v219, v220, v221, v222, v223, v224, v225, v226, v227, v228, v229, v230, v231, v232, v233, v234, v235, v236, u237, u238, u239, u240, u241, u242, u243, u244, u245, u246, u247, u248, u249, u250, u251, u252, u253, u254, u255, u256, u257, u258, u259, u260, u261, u262, u263, u264, u265, u266, u267, u268, u269, u270, u271, u272, u273, u274, u275, u276, u277, u278, u279, u280, u281, u282, u283, u284, u285, u286, u287, u288, u289, u290, u291, u292, u293, u294, u295, u296, u297, u298, u299, u300, u301, u302, u303, u304, u305, u306, u307, u308, u309, u310, u311, u312, u313, u314, u315, u316, u317, u318, u319, u320, u321, u322, u323, u324, u325, u326, u327, u328, u329, u330, u331, u332, u333, u334, u335, u336, u337, u338, u339, u340, u341, u342, u343, u344, u345, u346, u347, u348, u349, u350], []⟩ w') : Code.wp Try.prog (bsPiece 2) (Exit.then K Q') ⟨#[.int .i64 m, .int .i64 n, u2, u3, u4, u5, u6, u7, .pointer (some ⟨A.bb, 0, none⟩), u9, .pointer (some ⟨A.ob, 0, none⟩), .pointer (some ⟨A.ib, 0, none⟩), u12, .pointer (some ⟨ab, 0, none⟩), .pointer (some ⟨ab + 1, 0, none⟩), .pointer (some ⟨ab + 1 + 1, 0, none⟩), .bool true, .int .i64 ((a * n + b : Nat) : Int), .bool true, u19, u20, u21, u22, u23, u24, u25, u26, u27, u28, u29, u30, u31, u32, u33, u34, u35, u36, u37, u38, u39, u40, u41, u42, u43, u44, u45, u46, u47, u48, u49, u50, u51, u52, u53, u54, u55, u56, u57, u58, u59, u60, u61, u62, u63, u64, u65, u66, u67, u68, u69, u70, u71, u72, u73, u74, u75, u76, u77, u78, u79, u80, u81, u82, u83, u84, u85, u86, u87, u88, u89, u90, u91, u92, u93, u94, u95, u96, u97, u98, u99, u100, u101, u102, u103, u104, u105, u106, u107, u108, u109, u110, u111, u112, u113, u114, u115, u116, u117, u118, u119, u120, u121, u122, u123, u124, u125, u126, u127, u128, u129, u130, .string x.kind, u132, u133, u134, u135, u136, u137, u138, u139, u140, u141, u142, u143, u144, u145, u146, u147, u148, u149, u150, u151, u152, u153, u154, u155, u156, u157, u158, u159, u160, u161, u162, u163, u164, u165, u166, u167, u168, u169, u170, u171, u172, u173, u174, u175, u176, u177, u178, u179, u180, u181, u182, u183, u184, u185, u186, u187, u188, u189, u190, u191, u192, u193, u194, u195, u196, u197, u198, u199, u200, u201, u202, u203, u204, u205, u206, u207, u208, u209, u210, u211, u212, u213, u214, u215, u216, u217, u218, u219, u220, u221, u222, u223, u224, u225, u226, u227, u228, u229, u230, u231, u232, u233, u234, u235, u236, u237, u238, u239, u240, u241, u242, u243, u244, u245, u246, u247, u248, u249, u250, u251, u252, u253, u254, u255, u256, u257, u258, u259, u260, u261, u262, u263, u264, u265, u266, u267, u268, u269, u270, u271, u272, u273, u274, u275, u276, u277, u278, u279, u280, u281, u282, u283, u284, u285, u286, u287, u288, u289, u290, u291, u292, u293, u294, u295, u296, u297, u298, u299, u300, u301, u302, u303, u304, u305, u306, u307, u308, u309, u310, u311, u312, u313, u314, u315, u316, u317, u318, u319, u320, u321, u322, u323, u324, u325, u326, u327, u328, u329, u330, u331, u332, u333, u334, u335, u336, u337, u338, u339, u340, u341, u342, u343, u344, u345, u346, u347, u348, u349, u350], []⟩ w3 := by
  conv => arg 2; whnf
  obtain ⟨r, hr, hT, hj, hp, hpo, hpi⟩ := h.at ha hb
  have HSA := hide h
  have p0 := h.bp.get (j := 0) rfl
  have p1 := h.bp.get (j := 1) rfl
  rw [ea] at p0; rw [eb] at p1
  have t0 := h.bt.get (j := 0) rfl
  have t1 := h.bt.get (j := 1) rfl
  have t2 := h.bt.get (j := 2) rfl
  have o0 := boolAt h.bs.bo hpo
  rw [ho] at o0
  have HP := hide (Put_full (ta := (taskOf x).1) (tk := (taskOf x).2.2) (tf := (taskOf x).2.1) h.bs.bt hr hT hj (slot_on1.trans ho))
  clear h hr hT hj hpo hpi
  generalize hpos : a * n + b = pos at *
  go_wp2_with fail
  refine HP.out.mono ?_
  rintro e w1 ⟨rfl, b1⟩
  have HS := hide (same_any 8 8 w1 (by decide))
  rw [show decide ((8 : Int) = 8) = true by decide] at HS
  clear HP p0 p1 t0 t1 t2 o0
  go_wp2_with fail
  refine HS.out.mono ?_
  rintro e w2 ⟨rfl, rfl⟩
  clear HS
  go_wp2
  exact ⟨_, _, HSA.out.below b1⟩
set_option maxRecDepth 100000 in
set_option maxHeartbeats 8000000 in
theorem S_put_yes {w w3 : World} {A : Bad} {m n ab : Nat} {O : List Bool} {I : List TaskV} {x : ActV} (h : SA w w3 A m n ab O I x) (hk : (x.kind.toList == [112, 117, 116]) = true) {a b : Nat} (ea : x.a = a) (eb : x.b = b) (ha : a < m) (hb : b < n) (ho : O.getD (a * n + b) false = false)
    (u2 u3 u4 u5 u6 u7 u9 u12 u19 u20 u21 u22 u23 u24 u25 u26 u27 u28 u29 u30 u31 u32 u33 u34 u35 u36 u37 u38 u39 u40 u41 u42 u43 u44 u45 u46 u47 u48 u49 u50 u51 u52 u53 u54 u55 u56 u57 u58 u59 u60 u61 u62 u63 u64 u65 u66 u67 u68 u69 u70 u71 u72 u73 u74 u75 u76 u77 u78 u79 u80 u81 u82 u83 u84 u85 u86 u87 u88 u89 u90 u91 u92 u93 u94 u95 u96 u97 u98 u99 u100 u101 u102 u103 u104 u105 u106 u107 u108 u109 u110 u111 u112 u113 u114 u115 u116 u117 u118 u119 u120 u121 u122 u123 u124 u125 u126 u127 u128 u129 u130 u132 u133 u134 u135 u136 u137 u138 u139 u140 u141 u142 u143 u144 u145 u146 u147 u148 u149 u150 u151 u152 u153 u154 u155 u156 u157 u158 u159 u160 u161 u162 u163 u164 u165 u166 u167 u168 u169 u170 u171 u172 u173 u174 u175 u176 u177 u178 u179 u180 u181 u182 u183 u184 u185 u186 u187 u188 u189 u190 u191 u192 u193 u194 u195 u196 u197 u198 u199 u200 u201 u202 u203 u204 u205 u206 u207 u208 u209 u210 u211 u212 u213 u214 u215 u216 u217 u218 u219 u220 u221 u222 u223 u224 u225 u226 u227 u228 u229 u230 u231 u232 u233 u234 u235 u236 u237 u238 u239 u240 u241 u242 u243 u244 u245 u246 u247 u248 u249 u250 u251 u252 u253 u254 u255 u256 u257 u258 u259 u260 u261 u262 u263 u264 u265 u266 u267 u268 u269 u270 u271 u272 u273 u274 u275 u276 u277 u278 u279 u280 u281 u282 u283 u284 u285 u286 u287 u288 u289 u290 u291 u292 u293 u294 u295 u296 u297 u298 u299 u300 u301 u302 u303 u304 u305 u306 u307 u308 u309 u310 u311 u312 u313 u314 u315 u316 u317 u318 u319 u320 u321 u322 u323 u324 u325 u326 u327 u328 u329 u330 u331 u332 u333 u334 u335 u336 u337 u338 u339 u340 u341 u342 u343 u344 u345 u346 u347 u348 u349 u350 : Value) {K : Act → World → Prop} {Q' : Exit → Act → World → Prop} (hK : ∀ (v19 v20 v21 v22 v23 v24 v25 v26 v27 v132 v133 v134 v135 v136 v137 v138 v139 v140 v141 v142 v143 v144 v145 v146 v147 v148 v149 v150 v151 v152 v153 v154 v155 v156 v157 v158 v159 v160 v161 v162 v163 v164 v165 v166 v167 v168 v169 v170 v171 v172 v173 v174 v175 v176 v177 v178 v179 v180 v181 v182 v183 v184 v185 v186 v187 v188 v189 v190 v191 v192 v193 v194 v195 v196 v197 v198 v199 v200 v201 v202 v203 v204 v205 v206 v207 v208 v209 v210 v211 v212 v213 v214 v215 v216 v217 v218 v219 v220 v221 v222 v223 v224 v225 v226 v227 v228 v229 v230 v231 v232 v233 v234 v235 v236 : Value) (w' : World), SW w A m n ab x w' → K ⟨#[.int .i64 m, .int .i64 n, u2, u3, u4, u5, u6, u7, .pointer (some ⟨A.bb, 0, none⟩), u9, .pointer (some ⟨A.ob, 0, none⟩), .pointer (some ⟨A.ib, 0, none⟩), u12, .pointer (some ⟨ab, 0, none⟩), .pointer (some ⟨ab + 1, 0, none⟩), .pointer (some ⟨ab + 1 + 1, 0, none⟩), .bool true, .int .i64 ((a * n + b : Nat) : Int), .bool true, v19, v20, v21, v22, v23, v24, v25, v26, v27, u28, u29, u30, u31, u32, u33, u34, u35, u36, u37, u38, u39, u40, u41, u42, u43, u44, u45, u46, u47, u48, u49, u50, u51, u52, u53, u54, u55, u56, u57, u58, u59, u60, u61, u62, u63, u64, u65, u66, u67, u68, u69, u70, u71, u72, u73, u74, u75, u76, u77, u78, u79, u80, u81, u82, u83, u84, u85, u86, u87, u88, u89, u90, u91, u92, u93, u94, u95, u96, u97, u98, u99, u100, u101, u102, u103, u104, u105, u106, u107, u108, u109, u110, u111, u112, u113, u114, u115, u116, u117, u118, u119, u120, u121, u122, u123, u124, u125, u126, u127, u128, u129, u130, .string x.kind, v132, v133, v134, v135, v136, v137, v138, v139, v140, v141, v142, v143, v144, v145, v146, v147, v148, v149, v150, v151, v152, v153, v154, v155, v156, v157, v158, v159, v160, v161, v162, v163, v164, v165, v166, v167, v168, v169, v170, v171, v172, v173, v174, v175, v176, v177, v178, v179, v180, v181, v182, v183, v184, v185, v186, v187, v188, v189, v190, v191, v192, v193, v194, v195, v196, v197, v198, v199, v200, v201, v202, v203, v204, v205, v206, v207, v208, v209, v210, v211, v212, v213, v214, v215, v216, v217, v218, v219, v220, v221, v222, v223, v224, v225, v226, v227, v228, v229, v230, v231, v232, v233, v234, v235, v236, u237, u238, u239, u240, u241, u242, u243, u244, u245, u246, u247, u248, u249, u250, u251, u252, u253, u254, u255, u256, u257, u258, u259, u260, u261, u262, u263, u264, u265, u266, u267, u268, u269, u270, u271, u272, u273, u274, u275, u276, u277, u278, u279, u280, u281, u282, u283, u284, u285, u286, u287, u288, u289, u290, u291, u292, u293, u294, u295, u296, u297, u298, u299, u300, u301, u302, u303, u304, u305, u306, u307, u308, u309, u310, u311, u312, u313, u314, u315, u316, u317, u318, u319, u320, u321, u322, u323, u324, u325, u326, u327, u328, u329, u330, u331, u332, u333, u334, u335, u336, u337, u338, u339, u340, u341, u342, u343, u344, u345, u346, u347, u348, u349, u350], []⟩ w') : Code.wp Try.prog (bsPiece 2) (Exit.then K Q') ⟨#[.int .i64 m, .int .i64 n, u2, u3, u4, u5, u6, u7, .pointer (some ⟨A.bb, 0, none⟩), u9, .pointer (some ⟨A.ob, 0, none⟩), .pointer (some ⟨A.ib, 0, none⟩), u12, .pointer (some ⟨ab, 0, none⟩), .pointer (some ⟨ab + 1, 0, none⟩), .pointer (some ⟨ab + 1 + 1, 0, none⟩), .bool true, .int .i64 ((a * n + b : Nat) : Int), .bool true, u19, u20, u21, u22, u23, u24, u25, u26, u27, u28, u29, u30, u31, u32, u33, u34, u35, u36, u37, u38, u39, u40, u41, u42, u43, u44, u45, u46, u47, u48, u49, u50, u51, u52, u53, u54, u55, u56, u57, u58, u59, u60, u61, u62, u63, u64, u65, u66, u67, u68, u69, u70, u71, u72, u73, u74, u75, u76, u77, u78, u79, u80, u81, u82, u83, u84, u85, u86, u87, u88, u89, u90, u91, u92, u93, u94, u95, u96, u97, u98, u99, u100, u101, u102, u103, u104, u105, u106, u107, u108, u109, u110, u111, u112, u113, u114, u115, u116, u117, u118, u119, u120, u121, u122, u123, u124, u125, u126, u127, u128, u129, u130, .string x.kind, u132, u133, u134, u135, u136, u137, u138, u139, u140, u141, u142, u143, u144, u145, u146, u147, u148, u149, u150, u151, u152, u153, u154, u155, u156, u157, u158, u159, u160, u161, u162, u163, u164, u165, u166, u167, u168, u169, u170, u171, u172, u173, u174, u175, u176, u177, u178, u179, u180, u181, u182, u183, u184, u185, u186, u187, u188, u189, u190, u191, u192, u193, u194, u195, u196, u197, u198, u199, u200, u201, u202, u203, u204, u205, u206, u207, u208, u209, u210, u211, u212, u213, u214, u215, u216, u217, u218, u219, u220, u221, u222, u223, u224, u225, u226, u227, u228, u229, u230, u231, u232, u233, u234, u235, u236, u237, u238, u239, u240, u241, u242, u243, u244, u245, u246, u247, u248, u249, u250, u251, u252, u253, u254, u255, u256, u257, u258, u259, u260, u261, u262, u263, u264, u265, u266, u267, u268, u269, u270, u271, u272, u273, u274, u275, u276, u277, u278, u279, u280, u281, u282, u283, u284, u285, u286, u287, u288, u289, u290, u291, u292, u293, u294, u295, u296, u297, u298, u299, u300, u301, u302, u303, u304, u305, u306, u307, u308, u309, u310, u311, u312, u313, u314, u315, u316, u317, u318, u319, u320, u321, u322, u323, u324, u325, u326, u327, u328, u329, u330, u331, u332, u333, u334, u335, u336, u337, u338, u339, u340, u341, u342, u343, u344, u345, u346, u347, u348, u349, u350], []⟩ w3 := by
  conv => arg 2; whnf
  obtain ⟨r, hr, hT, hj, hp, hpo, hpi⟩ := h.at ha hb
  have HSA := hide h
  have p0 := h.bp.get (j := 0) rfl
  have p1 := h.bp.get (j := 1) rfl
  rw [ea] at p0; rw [eb] at p1
  have t0 := h.bt.get (j := 0) rfl
  have t1 := h.bt.get (j := 1) rfl
  have t2 := h.bt.get (j := 2) rfl
  have o0 := boolAt h.bs.bo hpo
  rw [ho] at o0
  have HP := hide (Put_yes (ta := (taskOf x).1) (tk := (taskOf x).2.2) (tf := (taskOf x).2.1) h.bs.bt hr hT hj (slot_on1.trans ho))
  clear h hT hj
  have HR := hide hr
  have HPO := hide hpo
  have HPI := hide hpi
  clear hr hpo hpi
  generalize hpos : a * n + b = pos at *
  have HPOS := hide hpos
  clear hpos
  go_wp2_with fail
  refine HP.out.mono ?_
  rintro e w1 ⟨rfl, k1, bt1⟩
  have HS := hide (same_nil 0 w1)
  rw [show decide ((0 : Int) = 0) = true by decide] at HS
  have hro := HSA.out.bs.hb.2.2 a r HR.out
  have hio := HSA.out.bs.ho
  have hai := HSA.out.hi
  have bo1 := HSA.out.bs.bo.kept k1 (by omega)
  have bi1 := HSA.out.bs.bi.kept k1 (by omega)
  have bt1' := HSA.out.bt.kept k1 (by omega)
  have o1 := boolAt bo1 HPO.out
  have f1 := bo1.fz pos
  obtain ⟨i0, i1, i2⟩ := taskAt bi1 HPI.out
  have z0 := bi1.fz (pos * 3)
  have z1 := bi1.fz (pos * 3 + 1)
  have z2 := bi1.fz (pos * 3 + 2)
  have t0 := bt1'.get (j := 0) rfl
  have t1 := bt1'.get (j := 1) rfl
  have t2 := bt1'.get (j := 2) rfl
  have hw := HSA.out.put ha hb HR.out k1 bt1
  rw [HPOS.out] at hw
  have HW := hide hw
  clear HP p0 p1 o0 bo1 bi1 bt1' hw hro
  go_wp2_with fail
  refine HS.out.mono ?_
  rintro e w2 ⟨rfl, rfl⟩
  clear HS
  go_wp2
  exact ⟨_, _, HW.out⟩
end Go.Proofs.Ytidhjpjeehoglaa
