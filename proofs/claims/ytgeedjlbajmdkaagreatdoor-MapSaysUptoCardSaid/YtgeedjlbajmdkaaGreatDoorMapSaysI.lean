/- MapSays: the state of its loops; a round of the inner loop. -/
import Derived.Test.YtgeedjlbajmdkaaGreatDoorMaps
import Derived.Test.YtgeedjlbajmdkaaGreatDoorErr
import Derived.Test.YtgeedjlbajmdkaaGreatDoorMSave
set_option linter.unusedSimpArgs false
set_option linter.unusedVariables false
namespace Go.Proofs.YtgeedjlbajmdkaaGreatDoor
open Go.RowKit

/-- a run, and all pairs by now -/
structure MSt (ro : Option Addr) (rc : Nat) (rs : List RuleR) (fold slices : Int) (early : Bool) (lines : List ByteArray) (W1 wq : World) (B n : Nat) (S : Nat → Prop) (rv av : Value) (m : Nat) : Prop where
  run : MRunV wq B ro rc rs fold slices early lines n S rv
  lo : B ≤ wq.heap.size
  base : W1.heap.size ≤ B
  far : ∀ q, S q → W1.heap.size ≤ q ∧ q < wq.heap.size
  all : Own 2 encP 101 wq W1.heap.size av (madeL (rs.map RuleR.v) fold (lines.take m))
  apart : ∀ q, av.ownBlock = some q → ¬ S q
  k : Below W1.heap.size W1 wq
section
variable {ro : Option Addr} {rc : Nat} {rs : List RuleR} {fold slices : Int} {early : Bool} {lines : List ByteArray} {W1 wq w' : World} {B n : Nat} {S : Nat → Prop} {rv av : Value} {m : Nat}
theorem MSt.later (h : MSt ro rc rs fold slices early lines W1 wq B n S rv av m) (hb : Below wq.heap.size wq w') : MSt ro rc rs fold slices early lines W1 w' B n S rv av m :=
  ⟨h.run.later hb, Nat.le_trans h.lo hb.size, h.base, fun q hq => ⟨(h.far q hq).1, Nat.lt_of_lt_of_le (h.far q hq).2 hb.size⟩, h.all.later hb, h.apart, h.k.trans (hb.mono h.k.size)⟩
theorem MSt.grow {w2 : World} {av' : Value} {m' : Nat} (h : MSt ro rc rs fold slices early lines W1 wq B n S rv av m) (hg : wq.grownBy w2 av.ownBlock) (ho : Own 2 encP 101 w2 W1.heap.size av' (madeL (rs.map RuleR.v) fold (lines.take m'))) (hat : av'.ownBlock = av.ownBlock ∨ av'.ownBlock = some wq.heap.size) :
    MSt ro rc rs fold slices early lines W1 w2 B n S rv av' m' := by
  have hk : KeptBut (fun q => av.ownBlock = some q) wq w2 := KeptBut.of_grown hg fun q e => e
  refine ⟨h.run.kept hk fun q hq e => h.apart q e hq, Nat.le_trans h.lo hk.size, h.base, fun q hq => ⟨(h.far q hq).1, Nat.lt_of_lt_of_le (h.far q hq).2 hk.size⟩, ho, fun q e hq => ?_, h.k.trans (hk.below (fun q e => (h.all.lt q e).1) h.k.size)⟩
  rcases hat with e2 | e2
  · exact h.apart q (e2 ▸ e) hq
  · rw [e2] at e
    have h1 := Option.some.inj e
    have h2 := (h.far q hq).2
    omega
theorem MSt.step {n' : Nat} {rv' : Value} (h : MSt ro rc rs fold slices early lines W1 wq B n S rv av m) (hk : KeptBut S wq w') (hr : MRunV w' B ro rc rs fold slices early lines n' (fun q => S q ∨ wq.heap.size ≤ q) rv') :
    MSt ro rc rs fold slices early lines W1 w' B n' (fun q => (S q ∨ wq.heap.size ≤ q) ∧ q < w'.heap.size) rv' av m := by
  have hs := h.k.size
  refine ⟨hr.bound, Nat.le_trans h.lo hk.size, h.base, fun q hq => ⟨?_, hq.2⟩, hk.own h.all fun q e => h.apart q e, fun q e hq => ?_, h.k.trans (hk.below (fun q hq => (h.far q hq).1) h.k.size)⟩
  · rcases hq.1 with h1 | h1
    · exact (h.far q h1).1
    · omega
  · rcases hq.1 with h1 | h1
    · exact h.apart q e h1
    · have := (h.all.lt q e).2; omega
/-- another run in its place -/
theorem MSt.newRun {B' n' : Nat} {S' : Nat → Prop} {rv' : Value} (h : MSt ro rc rs fold slices early lines W1 wq B n S rv av m) (hr : MRunV wq B' ro rc rs fold slices early lines n' S' rv') (hB : B' ≤ wq.heap.size) (hB1 : W1.heap.size ≤ B') (hS : ∀ q, S' q → W1.heap.size ≤ q ∧ q < wq.heap.size) (ha : ∀ q, av.ownBlock = some q → ¬ S' q) :
    MSt ro rc rs fold slices early lines W1 wq B' n' S' rv' av m := ⟨hr, hB, hB1, hS, h.all, ha, h.k⟩
end
noncomputable def msIn : Code := ((Tryz.f4.body.bind (blkAt 3)).getD .skip)
set_option maxRecDepth 100000 in
set_option maxHeartbeats 4000000 in
theorem MapSays_in {ro : Option Addr} {rc : Nat} {rs : List RuleR} {fold slices : Int} {early : Bool} {lo : Option Addr} {lc : Nat} {lines : List ByteArray} {w W1 wq : World} {d B n m : Nat} {S : Nat → Prop} {rv av : Value} (h : MSt ro rc rs fold slices early lines W1 wq B n S rv av m) (hm : m < lines.length) (hl60 : lines.length ≤ 60) (hok : JobOk rs fold slices)
    (hbj : ∀ w', Below W1.heap.size W1 w' → Bk w' w.heap.size [.slice ro rs.length rc, .int .i64 fold, .bool early, .int .i64 slices]) (hg : ∀ w', Below W1.heap.size W1 w' → GM w') (hj : ∀ w', Below W1.heap.size W1 w' → JobAt w' ro rs d) (hls : ∀ w', Below W1.heap.size W1 w' → Sl 1 encS w' lo lines) (hli : ∀ l ∈ lines, l.size ≤ 150)
    (u0 u1 u3 u4 u6 u7 u8 u9 u10 u11 u12 u13 u14 u17 u18 u19 u20 u21 u22 u23 u24 u25 u26 u27 u28 u29 u30 u31 u32 u33 u34 u35 u36 u37 u38 u39 u40 u41 u42 u43 u44 u45 u46 u47 u48 u49 u50 u51 u52 u53 u54 u55 u56 u57 u58 u59 u60 u61 u62 u63 u64 u65 u66 u67 u68 u69 u70 u71 u72 u73 u74 u75 u76 u77 u78 u79 u80 u81 u82 u83 u84 u85 u86 u87 u88 u89 u90 u91 u92 u93 u94 u95 u96 u97 u98 u99 u100 u101 u102 u103 u104 u105 u106 u107 u108 u109 u110 u111 u112 u113 u114 u115 u116 u117 u118 u119 u120 u121 u122 u123 u124 u125 u126 u127 u128 u129 u130 u131 u132 u133 u134 u135 u136 u137 u138 u139 u140 u141 u142 u143 u144 u145 u146 u147 u148 u149 u150 u151 u152 u153 u154 u155 u156 u157 u158 u159 u160 u161 u162 u163 u164 u165 u166 u167 u168 u169 u170 u171 u172 u173 u174 u175 u176 u177 u178 u179 u180 u181 u182 u183 u184 u185 u186 u187 u188 u189 u190 u191 u192 u193 u194 u195 : Value) {Q : Exit → Act → World → Prop}
    (hN : ∀ (v15 v20 v123 v124 v125 v126 v127 v128 v129 v130 v131 v132 v133 v134 v135 v136 v137 v138 v139 v140 v141 v142 : Value) (w' : World), MSt ro rc rs fold slices early lines W1 w' B n S rv v15 (m + 1) → Q .normal ⟨#[u0, u1, .slice lo lines.length lc, u3, u4, .pointer (some ⟨w.heap.size, 0, none⟩), u6, u7, u8, u9, u10, u11, u12, u13, u14, v15, .int .i64 ((m : Int) + 1), u17, u18, u19, v20, u21, u22, u23, u24, u25, u26, u27, u28, u29, u30, u31, u32, u33, u34, u35, u36, u37, u38, u39, u40, u41, u42, u43, u44, u45, u46, u47, u48, u49, u50, u51, u52, u53, u54, u55, u56, u57, u58, u59, u60, u61, u62, u63, u64, u65, u66, u67, u68, u69, u70, u71, u72, u73, u74, u75, u76, u77, u78, u79, u80, u81, u82, u83, u84, u85, u86, u87, u88, u89, u90, u91, u92, u93, u94, u95, u96, u97, u98, u99, u100, u101, u102, u103, u104, u105, u106, u107, u108, u109, u110, u111, u112, u113, u114, u115, u116, u117, u118, u119, u120, u121, u122, v123, v124, v125, v126, v127, v128, v129, v130, v131, v132, v133, v134, v135, v136, v137, v138, v139, v140, v141, v142, u143, u144, u145, u146, u147, u148, u149, u150, u151, u152, u153, u154, u155, u156, u157, u158, u159, u160, u161, u162, u163, u164, u165, u166, u167, u168, u169, u170, u171, u172, u173, u174, u175, u176, u177, u178, u179, u180, u181, u182, u183, u184, u185, u186, u187, u188, u189, u190, u191, u192, u193, u194, u195], []⟩ w') :
    Code.wp Tryz.prog msIn Q ⟨#[u0, u1, .slice lo lines.length lc, u3, u4, .pointer (some ⟨w.heap.size, 0, none⟩), u6, u7, u8, u9, u10, u11, u12, u13, u14, av, .int .i64 m, u17, u18, u19, u20, u21, u22, u23, u24, u25, u26, u27, u28, u29, u30, u31, u32, u33, u34, u35, u36, u37, u38, u39, u40, u41, u42, u43, u44, u45, u46, u47, u48, u49, u50, u51, u52, u53, u54, u55, u56, u57, u58, u59, u60, u61, u62, u63, u64, u65, u66, u67, u68, u69, u70, u71, u72, u73, u74, u75, u76, u77, u78, u79, u80, u81, u82, u83, u84, u85, u86, u87, u88, u89, u90, u91, u92, u93, u94, u95, u96, u97, u98, u99, u100, u101, u102, u103, u104, u105, u106, u107, u108, u109, u110, u111, u112, u113, u114, u115, u116, u117, u118, u119, u120, u121, u122, u123, u124, u125, u126, u127, u128, u129, u130, u131, u132, u133, u134, u135, u136, u137, u138, u139, u140, u141, u142, u143, u144, u145, u146, u147, u148, u149, u150, u151, u152, u153, u154, u155, u156, u157, u158, u159, u160, u161, u162, u163, u164, u165, u166, u167, u168, u169, u170, u171, u172, u173, u174, u175, u176, u177, u178, u179, u180, u181, u182, u183, u184, u185, u186, u187, u188, u189, u190, u191, u192, u193, u194, u195], []⟩ wq := by
  conv => arg 2; whnf
  obtain ⟨i0, hi0, hz0, hz1, hz2⟩ := info_parts infoPair
  have HS := hide h
  have hbk := hbj wq h.k
  have j0 := hbk.get (j := 0) rfl
  have j1 := hbk.get (j := 1) rfl
  have j2 := hbk.get (j := 2) rfl
  have j3 := hbk.get (j := 3) rfl
  obtain ⟨b, off, line, rfl, hbw, hlk, d0⟩ := (hls wq h.k).str hm
  have HMK := hide (madeL_succ (rs.map RuleR.v) fold hlk)
  have hl1 := hli line (List.mem_of_getElem? hlk)
  have hrn : rs.length ≤ 4 := hok.many.2
  have hb1 : (madeL (rs.map RuleR.v) fold (lines.take m)).length ≤ 60800 := by
    have h1 := madeL_len2 (rs.map RuleR.v) fold (by rw [List.length_map]; exact hrn) (lines.take m) (fun l hl => hli l (List.mem_of_mem_take hl))
    rw [List.length_take] at h1
    omega
  have hb2 : (pairsJ (rs.map RuleR.v) fold line).length ≤ 608 := by
    have h1 := pairsJ_len (rs.map RuleR.v) fold line hl1
    rw [List.length_map] at h1
    omega
  have HLN : Hid ((madeL (rs.map RuleR.v) fold (lines.take m)).length + (pairsJ (rs.map RuleR.v) fold line).length ≤ 1000000000) := by show _ ≤ _; omega
  have HPL : Hid ((pairsJ (rs.map RuleR.v) fold line).length ≤ maxLen) := by show _ ≤ _; unfold maxLen; omega
  have HP := hide fun (w' : World) (hb : Below wq.heap.size wq w') => by
    have hbw := h.k.trans (hb.mono h.k.size)
    exact PairsMade_any ro rc rs fold slices early line d w' (by omega) (by omega) (hj w' hbw).sl (hj w' hbw).at_ hok.ok
  have HPA := hide fun (w' : World) (hb : Below wq.heap.size wq w') => by
    have hbw := h.k.trans (hb.mono h.k.size)
    exact Pairs_any ro rc rs fold slices early line d w' (hg w' hbw) (by omega) (by omega) (hj w' hbw).sl (hj w' hbw).at_ hok.ok
  have f1 : (0 : Int) ≤ (m : Int) ∧ (m : Int) < (lines.length : Int) := by omega
  obtain ⟨f1, f2⟩ := f1
  obtain ⟨aa, ac, hav⟩ := id h.all.1
  have HAV := hide hav
  clear h hbj hg hj hls hli hlk hbk hb1 hb2 hok hav
  generalize pairsJ (rs.map RuleR.v) fold line = pl at *
  dsimp only
  go_upto_region 25 with (fail)
  go_cut [20] from 123 to 128 (fun pv wd => Hid (Own 2 encP 101 wd wq.heap.size pv pl) ∧ Hid (Below wq.heap.size wq wd))
  case first =>
    refine wp_region_noPanic ?_
    refine wp_region_heldE_drew (S := (fun w' => Below wq.heap.size wq w')) (E := [6]) (by kernel_rfl) ?_ (fun hHeld => ?_)
    · (first | exact (Below.refl _ _).drew | exact hHeld.trans (b1.mono hHeld.size) | exact hHeld)
    try dsimp only [List.size_toArray, List.length_cons, List.length_nil, Nat.reduceAdd]
    refine wpAnyHE_take (i := 0) (oi := { dst := some 123, op := Op.load 24 (Operand.tmp 5), type := 24, pos := "law.go:289", after := #[], guard := none }) (v := ?_) [[0]] rfl (by kernel_rfl) (by kernel_rfl) (by kernel_rfl) (by kernel_rfl) (by kernel_rfl) (fun _ _ _ h => h) (Or.inl ⟨by rfl, ?_⟩) (by assumption) ?_
    rotate_left
    · (intro w hSw; (try dsimp only at hSw); (have t0 := cell_later hSw j0; have t1 := cell_later hSw j1; have t2 := cell_later hSw j2; have t3 := cell_later hSw j3; have t4 := cell_later hSw d0); go_simp; try with_reducible rfl)
    try simp only [Act.put, List.setIfInBounds_toArray, List.set_cons_zero, List.set_cons_succ]
    refine wpAnyHE_takeP (i := 1) (oi := { dst := some 124, op := Op.move (Operand.tmp 2), type := 42, pos := "law.go:289", after := #[], guard := none }) (v := ?_) rfl (by kernel_rfl) (by kernel_rfl) (by kernel_rfl) (fun _ _ _ h => h) (Or.inl ⟨by rfl, ?_⟩) ?_
    rotate_left
    · (intro w _; go_simp; try with_reducible rfl)
    try simp only [Act.put, List.setIfInBounds_toArray, List.set_cons_zero, List.set_cons_succ]
    refine wpAnyHE_takeP (i := 2) (oi := { dst := some 125, op := Op.move (Operand.tmp 16), type := 3, pos := "law.go:289", after := #[], guard := none }) (v := ?_) rfl (by kernel_rfl) (by kernel_rfl) (by kernel_rfl) (fun _ _ _ h => h) (Or.inl ⟨by rfl, ?_⟩) ?_
    rotate_left
    · (intro w _; go_simp; try with_reducible rfl)
    try simp only [Act.put, List.setIfInBounds_toArray, List.set_cons_zero, List.set_cons_succ]
    refine wpAnyHE_takeP (i := 3) (oi := { dst := some 126, op := Op.indexAddr 42 (Operand.tmp 124) (Operand.tmp 125), type := 0, pos := "law.go:289", after := #[{ on := 1, ground := Ground.data }, { on := 2, ground := Ground.data }], guard := none }) (v := ?_) rfl (by kernel_rfl) (by kernel_rfl) (by kernel_rfl) (fun _ _ _ h => h) (Or.inl ⟨by rfl, ?_⟩) ?_
    rotate_left
    · (intro w _; go_simp; try with_reducible rfl)
    try simp only [Act.put, List.setIfInBounds_toArray, List.set_cons_zero, List.set_cons_succ]
    refine wpAnyHE_take (i := 4) (oi := { dst := some 127, op := Op.load 9 (Operand.tmp 126), type := 9, pos := "law.go:289", after := #[{ on := 3, ground := Ground.data }], guard := none }) (v := ?_) [[4]] rfl (by kernel_rfl) (by kernel_rfl) (by kernel_rfl) (by kernel_rfl) (by kernel_rfl) (fun _ _ _ h => h) (Or.inl ⟨by rfl, ?_⟩) (by assumption) ?_
    rotate_left
    · (intro w hSw; (try dsimp only at hSw); (have t0 := cell_later hSw j0; have t1 := cell_later hSw j1; have t2 := cell_later hSw j2; have t3 := cell_later hSw j3; have t4 := cell_later hSw d0); go_simp; try with_reducible rfl)
    try simp only [Act.put, List.setIfInBounds_toArray, List.set_cons_zero, List.set_cons_succ]
    refine wpAnyHE_ready (rs := [5]) (by kernel_rfl) (by simp) ?_
    refine AllReadyE.cons (o := { dst := some 128, op := Op.call { callee := Callee.value (Operand.func 23), args := #[Operand.tmp 123, Operand.tmp 127], argTypes := #[24, 9] }, type := 53, pos := "law.go:289", after := #[{ on := 0, ground := Ground.data }, { on := 4, ground := Ground.data }], guard := none }) rfl (fun KH hKH => ?_) AllReadyE.nil
    go_simp
    (go_at_call 23; refine (HP.out _ hHeld).mono ?_; rintro e w1 ⟨v1, rfl, o1, b1⟩; obtain ⟨pa, pc, rfl⟩ := id o1.1)
    try go_wp2_with fail
    refine hKH.out _ _ ?_ (fun hNew => ?_)
    · (first | exact (Below.refl _ _).drew | exact hHeld.trans (b1.mono hHeld.size) | exact hHeld)
    clear hKH KH hHeld
    have hHeld := hNew
    clear hNew
    try simp only [Act.put, List.setIfInBounds_toArray, List.set_cons_zero, List.set_cons_succ]
    refine wpAnyHE_ready (rs := [6]) (by kernel_rfl) (by simp) ?_
    refine AllReadyE.consE (o := { dst := some 20, op := Op.assign (Operand.tmp 128), type := 53, pos := "law.go:289", after := #[{ on := 5, ground := Ground.data }, { on := 5, ground := Ground.chain }, { on := 0, ground := Ground.phase }, { on := 1, ground := Ground.phase }, { on := 2, ground := Ground.phase }, { on := 3, ground := Ground.phase }, { on := 4, ground := Ground.phase }, { on := 5, ground := Ground.phase }], guard := none }) rfl (by kernel_rfl) (fun KH hKH => ?_) AllReadyE.nil
    have HBA := hide hHeld
    have HO1 := hide (o1.base_le (b := wq.heap.size) (Nat.le_refl _))
    go_simp
    refine hKH.out _ _ ?_
    clear hKH KH
    try clear hHeld
    try simp only [Act.put, List.setIfInBounds_toArray, List.set_cons_zero, List.set_cons_succ]
    refine wpAnyHE_done (by kernel_rfl) ?_ _
    refine NoPanic.normal ?_
    go_wp2
    go_meet
    first | exact ⟨HO1, HBA⟩ | trace_state
  case rest =>
  obtain ⟨HPO, HBP⟩ := hcut
  obtain ⟨pa, pc, rfl⟩ := id HPO.out.1
  obtain ⟨wc, rfl⟩ : ∃ wz, wz = wc := ⟨_, rfl⟩
  replace j0 := cell_later HBP.out j0
  replace j1 := cell_later HBP.out j1
  replace j2 := cell_later HBP.out j2
  replace j3 := cell_later HBP.out j3
  replace d0 := cell_later HBP.out d0
  replace HS := hide (HS.out.later HBP.out)
  replace HPA := hide fun (w' : World) (hb : Below wc.heap.size wc w') => HPA.out w' (HBP.out.trans (hb.mono HBP.out.size))
  have HPS := hide (HPO.out.sl encP_len)
  have HPN := hide HPO.out.cap0
  clear HP HPO HBP
  go_upto_region 26 with (fail)
  go_cut [137] from 129 to 137 (fun v wd => v = .bool false ∧ Hid (Below wc.heap.size wc wd))
  case first =>
    refine wp_region_noPanic ?_
    refine wp_region_heldE_drew (S := (fun w' => Below wc.heap.size wc w')) (E := [8]) (by kernel_rfl) ?_ (fun hHeld => ?_)
    · (first | exact (Below.refl _ _).drew | exact hHeld.trans (b1.mono hHeld.size) | exact hHeld.trans (b2.mono hHeld.size) | exact hHeld)
    try dsimp only [List.size_toArray, List.length_cons, List.length_nil, Nat.reduceAdd]
    refine wpAnyHE_take (i := 0) (oi := { dst := some 129, op := Op.load 24 (Operand.tmp 5), type := 24, pos := "law.go:290", after := #[], guard := none }) (v := ?_) [[7, 5, 0]] rfl (by kernel_rfl) (by kernel_rfl) (by kernel_rfl) (by kernel_rfl) (by kernel_rfl) (fun _ _ _ h => h) (Or.inl ⟨by rfl, ?_⟩) (by assumption) ?_
    rotate_left
    · (intro w hSw; (try dsimp only at hSw); (have t0 := cell_later hSw j0; have t1 := cell_later hSw j1; have t2 := cell_later hSw j2; have t3 := cell_later hSw j3; have t4 := cell_later hSw d0); go_simp; try with_reducible rfl)
    try simp only [Act.put, List.setIfInBounds_toArray, List.set_cons_zero, List.set_cons_succ]
    refine wpAnyHE_takeP (i := 1) (oi := { dst := some 130, op := Op.move (Operand.tmp 2), type := 42, pos := "law.go:290", after := #[], guard := none }) (v := ?_) rfl (by kernel_rfl) (by kernel_rfl) (by kernel_rfl) (fun _ _ _ h => h) (Or.inl ⟨by rfl, ?_⟩) ?_
    rotate_left
    · (intro w _; go_simp; try with_reducible rfl)
    try simp only [Act.put, List.setIfInBounds_toArray, List.set_cons_zero, List.set_cons_succ]
    refine wpAnyHE_takeP (i := 2) (oi := { dst := some 131, op := Op.move (Operand.tmp 16), type := 3, pos := "law.go:290", after := #[], guard := none }) (v := ?_) rfl (by kernel_rfl) (by kernel_rfl) (by kernel_rfl) (fun _ _ _ h => h) (Or.inl ⟨by rfl, ?_⟩) ?_
    rotate_left
    · (intro w _; go_simp; try with_reducible rfl)
    try simp only [Act.put, List.setIfInBounds_toArray, List.set_cons_zero, List.set_cons_succ]
    refine wpAnyHE_takeP (i := 3) (oi := { dst := some 132, op := Op.indexAddr 42 (Operand.tmp 130) (Operand.tmp 131), type := 0, pos := "law.go:290", after := #[{ on := 1, ground := Ground.data }, { on := 2, ground := Ground.data }], guard := none }) (v := ?_) rfl (by kernel_rfl) (by kernel_rfl) (by kernel_rfl) (fun _ _ _ h => h) (Or.inl ⟨by rfl, ?_⟩) ?_
    rotate_left
    · (intro w _; go_simp; try with_reducible rfl)
    try simp only [Act.put, List.setIfInBounds_toArray, List.set_cons_zero, List.set_cons_succ]
    refine wpAnyHE_take (i := 4) (oi := { dst := some 133, op := Op.load 9 (Operand.tmp 132), type := 9, pos := "law.go:290", after := #[{ on := 3, ground := Ground.data }], guard := none }) (v := ?_) [[7, 5, 4]] rfl (by kernel_rfl) (by kernel_rfl) (by kernel_rfl) (by kernel_rfl) (by kernel_rfl) (fun _ _ _ h => h) (Or.inl ⟨by rfl, ?_⟩) (by assumption) ?_
    rotate_left
    · (intro w hSw; (try dsimp only at hSw); (have t0 := cell_later hSw j0; have t1 := cell_later hSw j1; have t2 := cell_later hSw j2; have t3 := cell_later hSw j3; have t4 := cell_later hSw d0); go_simp; try with_reducible rfl)
    try simp only [Act.put, List.setIfInBounds_toArray, List.set_cons_zero, List.set_cons_succ]
    refine wpAnyHE_takeP (i := 6) (oi := { dst := some 135, op := Op.move (Operand.tmp 20), type := 53, pos := "law.go:290", after := #[], guard := none }) (v := ?_) rfl (by kernel_rfl) (by kernel_rfl) (by kernel_rfl) (fun _ _ _ h => h) (Or.inl ⟨by rfl, ?_⟩) ?_
    rotate_left
    · (intro w _; go_simp; try with_reducible rfl)
    try simp only [Act.put, List.setIfInBounds_toArray, List.set_cons_zero, List.set_cons_succ]
    refine wpAnyHE_ready (rs := [5]) (by kernel_rfl) (by simp) ?_
    refine AllReadyE.cons (o := { dst := some 134, op := Op.call { callee := Callee.value (Operand.func 25), args := #[Operand.tmp 129, Operand.tmp 133], argTypes := #[24, 9] }, type := 53, pos := "law.go:290", after := #[{ on := 0, ground := Ground.data }, { on := 4, ground := Ground.data }], guard := none }) rfl (fun KH hKH => ?_) AllReadyE.nil
    go_simp
    (go_at_call 25; refine (HPA.out _ hHeld).mono ?_; rintro e w1 ⟨v1, rfl, o1, b1⟩; obtain ⟨qa, qc, rfl⟩ := id o1.1)
    try go_wp2_with fail
    refine hKH.out _ _ ?_ (fun hNew => ?_)
    · (first | exact (Below.refl _ _).drew | exact hHeld.trans (b1.mono hHeld.size) | exact hHeld.trans (b2.mono hHeld.size) | exact hHeld)
    clear hKH KH hHeld
    have hHeld := hNew
    clear hNew
    try simp only [Act.put, List.setIfInBounds_toArray, List.set_cons_zero, List.set_cons_succ]
    refine wpAnyHE_ready (rs := [7]) (by kernel_rfl) (by simp) ?_
    refine AllReadyE.cons (o := { dst := some 136, op := Op.call { callee := Callee.value (Operand.func 24), args := #[Operand.tmp 134, Operand.tmp 135], argTypes := #[53, 53] }, type := 4, pos := "law.go:290", after := #[{ on := 5, ground := Ground.data }, { on := 6, ground := Ground.data }, { on := 5, ground := Ground.chain }], guard := none }) rfl (fun KH hKH => ?_) AllReadyE.nil
    go_simp
    (go_at_call 24; refine (SamePairs_refl qa pa qc pc pl _ HPL.out (o1.sl encP_len) (HPS.out.later hHeld (Nat.le_refl _))).mono ?_; rintro e w2 ⟨rfl, b2⟩)
    try go_wp2_with fail
    refine hKH.out _ _ ?_ (fun hNew => ?_)
    · (first | exact (Below.refl _ _).drew | exact hHeld.trans (b1.mono hHeld.size) | exact hHeld.trans (b2.mono hHeld.size) | exact hHeld)
    clear hKH KH hHeld
    have hHeld := hNew
    clear hNew
    try simp only [Act.put, List.setIfInBounds_toArray, List.set_cons_zero, List.set_cons_succ]
    refine wpAnyHE_ready (rs := [8]) (by kernel_rfl) (by simp) ?_
    refine AllReadyE.consE (o := { dst := some 137, op := Op.unOp UnOp.not 4 (Operand.tmp 136), type := 4, pos := "law.go:290", after := #[{ on := 7, ground := Ground.data }], guard := none }) rfl (by kernel_rfl) (fun KH hKH => ?_) AllReadyE.nil
    have HBA := hide hHeld
    go_simp
    refine hKH.out _ _ ?_
    clear hKH KH
    try clear hHeld
    try simp only [Act.put, List.setIfInBounds_toArray, List.set_cons_zero, List.set_cons_succ]
    refine wpAnyHE_done (by kernel_rfl) ?_ _
    refine NoPanic.normal ?_
    go_wp2
    go_meet
    first | exact ⟨rfl, HBA⟩ | trace_state
  case rest =>
  obtain ⟨rfl, HBP⟩ := hcut
  rename World => wd
  replace HS := hide (HS.out.later HBP.out)
  replace HPS := hide (HPS.out.later HBP.out (Nat.le_refl _))
  have HLO := hide HS.out.k.size
  clear j0 j1 j2 j3 d0 HPA HBP
  obtain rfl := HAV.out
  clear HAV
  go_wp2_with (at_builtin; refine wpList_append_any encP_len _ _ 53 i0 _ rfl rfl Tryz.underlying53 hi0 hz0 hz1 hz2 rfl (by decide) (by decide) HS.out.all (Below.refl _ _) HLO.out pl HLN.out rfl pa pc pl.length rfl rfl HPN.out HPS.out (one_flat one_pair) ?_; intro v' w2 ho hb hgr hat; have HS2 := hide (HS.out.grow (m' := m + 1) hgr (by rw [HMK.out]; exact ho) hat); clear ho hb hgr hat)
  go_wp2
  exact HS2.out
end Go.Proofs.YtgeedjlbajmdkaaGreatDoor
