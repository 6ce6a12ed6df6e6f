/- BenchSays: behind the switch. -/
import Derived.Test.YtidhjpjeehoglaaBenchP4
import Derived.Deep.CutBlock
import Derived.Deep.CutRange
namespace Go.Proofs.Ytidhjpjeehoglaa
open Go.RowKit Go.ChangeShapes Go.WideShapes Go.ChangeAt

def tailFrom (n : Nat) : Code → Option Code
  | .region k c d => if k = n then some (.region k c d) else none
  | .seq a b => match tailFrom n a with
    | some c => some (.seq c b)
    | none => tailFrom n b
  | .block _ c => tailFrom n c
  | .loop c => tailFrom n c
  | .scope c => tailFrom n c
  | .cond _ a b => match tailFrom n a with
    | some c => some c
    | none => tailFrom n b
  | _ => none
theorem SC_start {w0 w : World} {A : Bad} {m n ab : Nat} {O : List Bool} {I : List TaskV} {x : ActV} (h : SA w0 w A m n ab O I x) :
    SC w0 (w.alloc (.cells #[.int .i64 0, .int .i64 0, .int .i64 0] 44)) A m n ab w.heap.size O I x 0 :=
  ⟨h.below (ba w _), Bk.new rfl, h.bt.lt⟩
theorem SC.sl {w0 w : World} {A : Bad} {m n ab cb : Nat} {O : List Bool} {I : List TaskV} {x : ActV} {k : Nat} (h : SC w0 w A m n ab cb O I x k) : Sl 1 encInt w (some ⟨cb, 0, none⟩) (cntTo O I k) := by
  intro _
  refine ⟨cb, 0, rfl, h.bc.lt, fun i y j u hi hj => ?_⟩
  have : j = 0 := by
    cases j with
    | zero => rfl
    | succ j => simp [encInt] at hj
  subst this
  have e : u = .int .i64 y := by simpa [encInt] using hj.symm
  subst e
  have := h.bc.get (j := i) (v := .int .i64 y) (by rw [List.getElem?_map, hi]; rfl)
  simpa using this
def inBlk : Code → Code
  | .block _ c => c
  | c => c
noncomputable def bsTail (n : Nat) : Code := (tailFrom n (inBlk (bsPiece 1))).getD .skip
set_option maxRecDepth 100000 in
set_option maxHeartbeats 8000000 in
theorem E1 {w w4 : World} {A : Bad} {m n ab : Nat} {x : ActV} (hw : SW w A m n ab x w4)
    (u2 u3 u4 u5 u6 u7 u9 u12 u16 u17 u19 u20 u21 u22 u23 u24 u25 u26 u27 u28 u29 u30 u31 u32 u33 u34 u35 u36 u37 u38 u39 u40 u41 u42 u43 u44 u45 u46 u47 u48 u49 u50 u51 u52 u53 u54 u55 u56 u57 u58 u59 u60 u61 u62 u63 u64 u65 u66 u67 u68 u69 u70 u71 u72 u73 u74 u75 u76 u77 u78 u79 u80 u81 u82 u83 u84 u85 u86 u87 u88 u89 u90 u91 u92 u93 u94 u95 u96 u97 u98 u99 u100 u101 u102 u103 u104 u105 u106 u107 u108 u109 u110 u111 u112 u113 u114 u115 u116 u117 u118 u119 u120 u121 u122 u123 u124 u125 u126 u127 u128 u129 u130 u131 u132 u133 u134 u135 u136 u137 u138 u139 u140 u141 u142 u143 u144 u145 u146 u147 u148 u149 u150 u151 u152 u153 u154 u155 u156 u157 u158 u159 u160 u161 u162 u163 u164 u165 u166 u167 u168 u169 u170 u171 u172 u173 u174 u175 u176 u177 u178 u179 u180 u181 u182 u183 u184 u185 u186 u187 u188 u189 u190 u191 u192 u193 u194 u195 u196 u197 u198 u199 u200 u201 u202 u203 u204 u205 u206 u207 u208 u209 u210 u211 u212 u213 u214 u215 u216 u217 u218 u219 u220 u221 u222 u223 u224 u225 u226 u227 u228 u229 u230 u231 u232 u233 u234 u235 u236 u237 u238 u239 u240 u241 u242 u243 u244 u245 u246 u247 u248 u249 u250 u251 u252 u253 u254 u255 u256 u257 u258 u259 u260 u261 u262 u263 u264 u265 u266 u267 u268 u269 u270 u271 u272 u273 u274 u275 u276 u277 u278 u279 u280 u281 u282 u283 u284 u285 u286 u287 u288 u289 u290 u291 u292 u293 u294 u295 u296 u297 u298 u299 u300 u301 u302 u303 u304 u305 u306 u307 u308 u309 u310 u311 u312 u313 u314 u315 u316 u317 u318 u319 u320 u321 u322 u323 u324 u325 u326 u327 u328 u329 u330 u331 u332 u333 u334 u335 u336 u337 u338 u339 u340 u341 u342 u343 u344 u345 u346 u347 u348 u349 u350 : Value) {Q : Exit → Act → World → Prop}
    (hK : ∀ (v6 v28 v29 v30 v31 v32 v33 v34 v35 v237 v238 v239 v240 v241 v242 v243 v244 v245 v246 v247 v248 v249 v250 v251 v252 v253 v254 v255 v256 v257 v258 v259 v260 v261 v262 v263 v264 v265 v266 v267 v268 v269 v270 v271 v272 v273 v274 v275 v276 v277 v278 v279 v280 v281 v282 v283 v284 v285 v286 v287 v288 v289 v290 v291 v292 v293 v294 v295 v296 v297 v298 v299 v300 v301 v302 v303 v304 v305 v306 v307 v308 v309 v310 v311 v312 v313 v314 v315 v316 v317 v318 v319 v320 v321 v322 v323 v324 v325 v326 v327 v328 v329 v330 v331 v332 v333 v334 v335 v336 v337 v338 v339 v340 v341 v342 v343 v344 v345 v346 v347 v348 v349 v350 : Value) (w' : World), (∃ O I, BS w w' A m n O I) → Q .normal ⟨#[.int .i64 m, .int .i64 n, u2, u3, u4, u5, v6, u7, .pointer (some ⟨A.bb, 0, none⟩), u9, .pointer (some ⟨A.ob, 0, none⟩), .pointer (some ⟨A.ib, 0, none⟩), u12, .pointer (some ⟨ab, 0, none⟩), .pointer (some ⟨ab + 1, 0, none⟩), .pointer (some ⟨ab + 1 + 1, 0, none⟩), u16, u17, .bool true, u19, u20, u21, u22, u23, u24, u25, u26, u27, v28, v29, v30, v31, v32, v33, v34, v35, u36, u37, u38, u39, u40, u41, u42, u43, u44, u45, u46, u47, u48, u49, u50, u51, u52, u53, u54, u55, u56, u57, u58, u59, u60, u61, u62, u63, u64, u65, u66, u67, u68, u69, u70, u71, u72, u73, u74, u75, u76, u77, u78, u79, u80, u81, u82, u83, u84, u85, u86, u87, u88, u89, u90, u91, u92, u93, u94, u95, u96, u97, u98, u99, u100, u101, u102, u103, u104, u105, u106, u107, u108, u109, u110, u111, u112, u113, u114, u115, u116, u117, u118, u119, u120, u121, u122, u123, u124, u125, u126, u127, u128, u129, u130, u131, u132, u133, u134, u135, u136, u137, u138, u139, u140, u141, u142, u143, u144, u145, u146, u147, u148, u149, u150, u151, u152, u153, u154, u155, u156, u157, u158, u159, u160, u161, u162, u163, u164, u165, u166, u167, u168, u169, u170, u171, u172, u173, u174, u175, u176, u177, u178, u179, u180, u181, u182, u183, u184, u185, u186, u187, u188, u189, u190, u191, u192, u193, u194, u195, u196, u197, u198, u199, u200, u201, u202, u203, u204, u205, u206, u207, u208, u209, u210, u211, u212, u213, u214, u215, u216, u217, u218, u219, u220, u221, u222, u223, u224, u225, u226, u227, u228, u229, u230, u231, u232, u233, u234, u235, u236, v237, v238, v239, v240, v241, v242, v243, v244, v245, v246, v247, v248, v249, v250, v251, v252, v253, v254, v255, v256, v257, v258, v259, v260, v261, v262, v263, v264, v265, v266, v267, v268, v269, v270, v271, v272, v273, v274, v275, v276, v277, v278, v279, v280, v281, v282, v283, v284, v285, v286, v287, v288, v289, v290, v291, v292, v293, v294, v295, v296, v297, v298, v299, v300, v301, v302, v303, v304, v305, v306, v307, v308, v309, v310, v311, v312, v313, v314, v315, v316, v317, v318, v319, v320, v321, v322, v323, v324, v325, v326, v327, v328, v329, v330, v331, v332, v333, v334, v335, v336, v337, v338, v339, v340, v341, v342, v343, v344, v345, v346, v347, v348, v349, v350], []⟩ w') :
    Code.wp Try.prog (bsTail 55) Q ⟨#[.int .i64 m, .int .i64 n, u2, u3, u4, u5, u6, u7, .pointer (some ⟨A.bb, 0, none⟩), u9, .pointer (some ⟨A.ob, 0, none⟩), .pointer (some ⟨A.ib, 0, none⟩), u12, .pointer (some ⟨ab, 0, none⟩), .pointer (some ⟨ab + 1, 0, none⟩), .pointer (some ⟨ab + 1 + 1, 0, none⟩), u16, u17, .bool true, u19, u20, u21, u22, u23, u24, u25, u26, u27, u28, u29, u30, u31, u32, u33, u34, u35, u36, u37, u38, u39, u40, u41, u42, u43, u44, u45, u46, u47, u48, u49, u50, u51, u52, u53, u54, u55, u56, u57, u58, u59, u60, u61, u62, u63, u64, u65, u66, u67, u68, u69, u70, u71, u72, u73, u74, u75, u76, u77, u78, u79, u80, u81, u82, u83, u84, u85, u86, u87, u88, u89, u90, u91, u92, u93, u94, u95, u96, u97, u98, u99, u100, u101, u102, u103, u104, u105, u106, u107, u108, u109, u110, u111, u112, u113, u114, u115, u116, u117, u118, u119, u120, u121, u122, u123, u124, u125, u126, u127, u128, u129, u130, u131, u132, u133, u134, u135, u136, u137, u138, u139, u140, u141, u142, u143, u144, u145, u146, u147, u148, u149, u150, u151, u152, u153, u154, u155, u156, u157, u158, u159, u160, u161, u162, u163, u164, u165, u166, u167, u168, u169, u170, u171, u172, u173, u174, u175, u176, u177, u178, u179, u180, u181, u182, u183, u184, u185, u186, u187, u188, u189, u190, u191, u192, u193, u194, u195, u196, u197, u198, u199, u200, u201, u202, u203, u204, u205, u206, u207, u208, u209, u210, u211, u212, u213, u214, u215, u216, u217, u218, u219, u220, u221, u222, u223, u224, u225, u226, u227, u228, u229, u230, u231, u232, u233, u234, u235, u236, u237, u238, u239, u240, u241, u242, u243, u244, u245, u246, u247, u248, u249, u250, u251, u252, u253, u254, u255, u256, u257, u258, u259, u260, u261, u262, u263, u264, u265, u266, u267, u268, u269, u270, u271, u272, u273, u274, u275, u276, u277, u278, u279, u280, u281, u282, u283, u284, u285, u286, u287, u288, u289, u290, u291, u292, u293, u294, u295, u296, u297, u298, u299, u300, u301, u302, u303, u304, u305, u306, u307, u308, u309, u310, u311, u312, u313, u314, u315, u316, u317, u318, u319, u320, u321, u322, u323, u324, u325, u326, u327, u328, u329, u330, u331, u332, u333, u334, u335, u336, u337, u338, u339, u340, u341, u342, u343, u344, u345, u346, u347, u348, u349, u350], []⟩ w4 := by
  conv => arg 2; whnf
  obtain ⟨O', I', hsa⟩ := hw
  have hsc := SC_start hsa
  have hn1 := hsa.bs.dims.2.2.2
  have hn3 := hsa.bs.dims.2.1
  have hm4 := hsa.bs.dims.1
  have HSC := hide hsc
  clear hsa hsc
  go_upto_block 5 with (fail)
  refine L_all HSC.out _ _ _ _ _ _ _ _ _ _ _ _ _ _ _ _ _ _ _ _ _ _ _ _ _ _ _ _ _ _ _ _ _ _ _ _ _ _ _ _ _ _ _ _ _ _ _ _ _ _ _ _ _ _ _ _ _ _ _ _ _ _ _ _ _ _ _ _ _ _ _ _ _ _ _ _ _ _ _ _ _ _ _ _ _ _ _ _ _ _ _ _ _ _ _ _ _ _ _ _ _ _ _ _ _ _ _ _ _ _ _ _ _ _ _ _ _ _ _ _ _ _ _ _ _ _ _ _ _ _ _ _ _ _ _ _ _ _ _ _ _ _ _ _ _ _ _ _ _ _ _ _ _ _ _ _ _ _ _ _ _ _ _ _ _ _ _ _ _ _ _ _ _ _ _ _ _ _ _ _ _ _ _ _ _ _ _ _ _ _ _ _ _ _ _ _ _ _ _ _ _ _ _ _ _ _ _ _ _ _ _ _ _ _ _ _ _ _ _ _ _ _ _ _ _ _ _ _ _ _ _ _ _ _ _ _ _ _ _ _ _ _ _ _ _ _ _ _ _ _ _ _ _ _ _ _ _ _ _ _ _ _ _ _ _ _ _ _ _ _ _ _ _ _ _ _ _ _ _ _ _ _ _ _ _ _ _ _ _ _ _ _ _ _ _ _ _ _ _ _ _ _ _ _ _ _ _ _ _ _ _ _ _ _ _ _ _ _ _ _ _ _ _ _ _ _ _ _ _ _ _ _ _ _ _ _ _ _ _ ?_
  intro v6 v30 v31 v32 v237 v238 v239 v240 v241 v242 v243 v244 v245 v246 v247 v248 v249 v250 v251 v252 v253 v254 v255 v256 v257 v258 v259 v260 v261 v262 v263 v264 v265 v266 v267 v268 v269 v270 v271 v272 v273 v274 v275 v276 v277 v278 v279 v280 v281 v282 v283 v284 v285 v286 v287 v288 v289 v290 v291 v292 v293 v294 v295 v296 v297 v298 v299 v300 v301 v302 v303 v304 v305 v306 v307 v308 v309 v310 v311 v312 v313 v314 v315 v316 v317 v318 w5 hsc
  dsimp only
  generalize w4.heap.size = cb at *
  have HS5 := hide hsc
  have HZ := hide (Size_any hsc.sa.bs.bt)
  rw [hsc.sa.bs.lr] at HZ
  clear hsc HSC
  go_wp2_with fail
  refine HZ.out.mono ?_
  rintro e w6 ⟨rfl, b6⟩
  have HS6 := hide (HS5.out.below b6)
  have HC := hide (Count_any 3 (by decide) HS6.out.sa.bs.bt)
  clear HZ b6 HS5
  go_wp2_with fail
  refine HC.out.mono ?_
  rintro e w7 ⟨ob, rfl, b7, oc⟩
  rw [cntTo_end] at oc
  have HS7 := hide (HS6.out.below b7)
  have q0 := HS7.out.sa.bt.get (j := 0) rfl
  have q1 := HS7.out.sa.bt.get (j := 1) rfl
  have q2 := HS7.out.sa.bt.get (j := 2) rfl
  have HR := hide (Runs_any (taskOf x).1 (taskOf x).2.2 (taskOf x).2.1 HS7.out.sa.bs.bt)
  rw [show ((taskOf x).1, (taskOf x).2.1, (taskOf x).2.2) = taskOf x from rfl, runTo_end] at HR
  have OC := hide oc
  clear HC HS6 oc
  go_wp2_with fail
  refine HR.out.mono ?_
  rintro e w8 ⟨rfl, b8⟩
  have HS8 := hide (HS7.out.below b8)
  have hcl := cntTo_len O' I' (m * n)
  have HN := hide (SameNumbers_refl (some ⟨ob, 0, none⟩) (some ⟨cb, 0, none⟩) 3 3 (cntTo O' I' (m * n)) w8 (by rw [hcl]; decide) (Own.sl (l := cntTo O' I' (m * n)) encInt_len (by rw [hcl]; exact OC.out.later b8)) HS8.out.sl)
  rw [hcl] at HN
  clear HR HS7 OC b7 b8 q0 q1 q2
  go_wp2_with fail
  refine HN.out.mono ?_
  rintro e w9 ⟨rfl, b9⟩
  clear HN
  go_wp2
  exact ⟨O', I', (HS8.out.below b9).sa.bs⟩
end Go.Proofs.Ytidhjpjeehoglaa
