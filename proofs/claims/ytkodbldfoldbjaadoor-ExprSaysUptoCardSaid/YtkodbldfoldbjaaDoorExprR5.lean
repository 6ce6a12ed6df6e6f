/- ExprSays: the great test (one region). -/
import Derived.Test.YtkodbldfoldbjaaDoorExprOpen
import Derived.Test.YtkodbldfoldbjaaDoorTexts
import Derived.Test.YtkodbldfoldbjaaDoorPiece
import Derived.Deep.RegionHeld3
set_option linter.unusedSimpArgs false
set_option linter.unusedVariables false
namespace Go.Proofs.YtkodbldfoldbjaaDoor
open Go.RowKit Go.ChangeShapes Go.WideShapes Go.ChangeAt

noncomputable def esRegion (n : Nat) : Code := ((Tryd.f3.body.bind (regOf n)).getD .skip)
set_option maxRecDepth 100000 in
set_option maxHeartbeats 8000000 in
theorem ES5 {W : World} {k n f : Int} {s line : ByteArray} {ao : Option Addr} {al cap bb wl : Nat} {text each tb : Bool} {ev : Value} {LS : World → Option Addr → Prop}
    (c0 : W.cell? ⟨bb, 0, none⟩ = some (.int .i64 k)) (c1 : W.cell? ⟨bb, 1, none⟩ = some (.int .i64 n)) (c2 : W.cell? ⟨bb, 2, none⟩ = some (.string s)) (c3 : W.cell? ⟨bb, 3, none⟩ = some (.slice ao al cap))
    (HCK : Hid (∀ w' : World, Below W.heap.size W w' → Calls Tryd.prog 16 #[.agg #[.int .i64 k, .int .i64 n, .string s, .slice ao al cap], .bool text, .bool each] w' fun e w'' => e = .returned ev ∧ Below w'.heap.size w' w''))
    (HSM : Hid (∀ w' : World, Calls Tryd.prog 15 #[ev, .int .i64 f] w' fun e w'' => e = .returned (.bool true) ∧ w' = w''))
    (HW1 : Hid (∀ w' : World, Below W.heap.size W w' → Calls Tryd.prog 18 #[.string line] w' fun e w'' => ∃ a5 p5, e = .returned (.slice a5 wl p5) ∧ LS w'' a5 ∧ Below w'.heap.size w' w''))
    (HW2 : Hid (∀ w' : World, Below W.heap.size W w' → Calls Tryd.prog 19 #[.string line] w' fun e w'' => ∃ a5 p5, e = .returned (.slice a5 wl p5) ∧ LS w'' a5 ∧ Below w'.heap.size w' w''))
    (HLS : Hid (∀ (w' w'' : World) a5, LS w' a5 → Below w'.heap.size w' w'' → LS w'' a5))
    (HST : Hid (∀ (w' : World) a5 a6 p5 p6, LS w' a5 → LS w' a6 → Calls Tryd.prog 17 #[.slice a5 wl p5, .slice a6 wl p6] w' fun e w'' => e = .returned (.bool true) ∧ Below w'.heap.size w' w''))
    (HTX : Hid (∀ w' : World, Calls Tryd.prog 20 #[.agg #[.int .i64 k, .int .i64 n, .string s, .slice ao al cap]] w' fun e w'' => e = .returned (.bool tb) ∧ Below w'.heap.size w' w'')) (htb : decide (1 ≤ k ∧ k ≤ 6) = tb)
    (u0 u4 u6 u7 u8 u9 u10 u11 u13 u14 u15 u16 u17 u18 u19 u20 u21 u22 u23 u24 u25 u26 u27 u28 u29 u30 u31 u32 u33 u34 u35 u36 u37 u38 u39 u40 u41 u42 u43 u44 u45 u46 u47 u48 u49 u50 u51 u52 u53 u54 u55 u56 u57 u58 u59 u60 u61 u62 u63 u64 u65 u66 u67 u68 u69 u70 u71 u72 u73 u74 u75 u76 u77 u78 u79 u80 u81 u82 u83 u84 u85 u86 u87 u88 u89 u90 u91 u92 u93 u94 u95 u96 u97 u98 u99 u100 u101 u102 u103 u104 u105 u106 u107 u108 u109 u110 u111 u112 u113 u114 u115 u116 : Value) {K : Act → World → Prop} {Q' : Exit → Act → World → Prop}
    (hK : ∀ (v33 v34 v35 v36 v37 v38 v39 v40 v41 v42 v43 v44 v45 v46 v47 v48 v49 v50 v51 v52 v53 v54 v55 v56 v57 v58 v59 : Value) (w' : World), Below W.heap.size W w' → K ⟨#[u0, .bool text, .bool each, .string line, u4, .pointer (some ⟨bb, 0, none⟩), u6, u7, u8, u9, u10, u11, .int .i64 f, u13, u14, u15, u16, u17, u18, u19, u20, u21, u22, u23, u24, u25, u26, u27, u28, u29, u30, u31, u32, v33, v34, v35, v36, v37, v38, v39, v40, v41, v42, v43, v44, v45, v46, v47, v48, v49, v50, v51, v52, v53, v54, v55, v56, v57, v58, v59, .bool false, u61, u62, u63, u64, u65, u66, u67, u68, u69, u70, u71, u72, u73, u74, u75, u76, u77, u78, u79, u80, u81, u82, u83, u84, u85, u86, u87, u88, u89, u90, u91, u92, u93, u94, u95, u96, u97, u98, u99, u100, u101, u102, u103, u104, u105, u106, u107, u108, u109, u110, u111, u112, u113, u114, u115, u116], []⟩ w') :
    Code.wp Tryd.prog (esRegion 5) (Exit.then K Q') ⟨#[u0, .bool text, .bool each, .string line, u4, .pointer (some ⟨bb, 0, none⟩), u6, u7, u8, u9, u10, u11, .int .i64 f, u13, u14, u15, u16, u17, u18, u19, u20, u21, u22, u23, u24, u25, u26, u27, u28, u29, u30, u31, u32, u33, u34, u35, u36, u37, u38, u39, u40, u41, u42, u43, u44, u45, u46, u47, u48, u49, u50, u51, u52, u53, u54, u55, u56, u57, u58, u59, u60, u61, u62, u63, u64, u65, u66, u67, u68, u69, u70, u71, u72, u73, u74, u75, u76, u77, u78, u79, u80, u81, u82, u83, u84, u85, u86, u87, u88, u89, u90, u91, u92, u93, u94, u95, u96, u97, u98, u99, u100, u101, u102, u103, u104, u105, u106, u107, u108, u109, u110, u111, u112, u113, u114, u115, u116], []⟩ W := by
  conv => arg 2; whnf
  have hwf : Below W.heap.size W W.drew := (Below.refl _ _).drew
  by_cases h1 : 1 ≤ k
  · have g1 : decide (1 ≤ k) = true := by simp; omega
    by_cases h6 : k ≤ 6
    · have g2 : decide (k ≤ 6) = true := by simp; omega
      obtain rfl : tb = true := by rw [← htb]; simp; omega
      clear htb h1 h6
      first
        | go_region_held3 (fun w' => Below W.heap.size W w' ∧ w'.cell? ⟨bb, 0, none⟩ = some (.int .i64 k) ∧ w'.cell? ⟨bb, 1, none⟩ = some (.int .i64 n) ∧ w'.cell? ⟨bb, 2, none⟩ = some (.string s) ∧ w'.cell? ⟨bb, 3, none⟩ = some (.slice ao al cap))
            (first
              | exact ⟨hwf, c0, c1, c2, c3⟩
              | (have h := (by assumption : Below W.heap.size W _ ∧ _ ∧ _); exact ⟨h.1.trans (b8.mono h.1.size), cell_later b8 h.2.1, cell_later b8 h.2.2.1, cell_later b8 h.2.2.2.1, cell_later b8 h.2.2.2.2⟩)
              | (have h := (by assumption : Below W.heap.size W _ ∧ _ ∧ _); exact ⟨h.1.trans (b7.mono h.1.size), cell_later b7 h.2.1, cell_later b7 h.2.2.1, cell_later b7 h.2.2.2.1, cell_later b7 h.2.2.2.2⟩)
              | (have h := (by assumption : Below W.heap.size W _ ∧ _ ∧ _); exact ⟨h.1.trans (b6.mono h.1.size), cell_later b6 h.2.1, cell_later b6 h.2.2.1, cell_later b6 h.2.2.2.1, cell_later b6 h.2.2.2.2⟩)
              | (have h := (by assumption : Below W.heap.size W _ ∧ _ ∧ _); exact ⟨h.1.trans (b5.mono h.1.size), cell_later b5 h.2.1, cell_later b5 h.2.2.1, cell_later b5 h.2.2.2.1, cell_later b5 h.2.2.2.2⟩)
              | (have h := (by assumption : Below W.heap.size W _ ∧ _ ∧ _); exact ⟨h.1.trans (b4.mono h.1.size), cell_later b4 h.2.1, cell_later b4 h.2.2.1, cell_later b4 h.2.2.2.1, cell_later b4 h.2.2.2.2⟩)
              | go_keep)
            (first
              | (go_at_call 16; have h := (by assumption : Below W.heap.size W _ ∧ _ ∧ _); refine (HCK.out _ h.1).mono ?_; clear h; rintro e w4 ⟨rfl, b4⟩)
              | (go_at_call 15; refine (HSM.out _).mono ?_; rintro e w9 ⟨rfl, rfl⟩)
              | (go_at_call 18; have h := (by assumption : Below W.heap.size W _ ∧ _ ∧ _); refine (HW1.out _ h.1).mono ?_; clear h; rintro e w5 ⟨a5, p5, rfl, o5, b5⟩)
              | (go_at_call 19; have h := (by assumption : Below W.heap.size W _ ∧ _ ∧ _); refine (HW2.out _ h.1).mono ?_; clear h; rintro e w6 ⟨a6, p6, rfl, o6, b6⟩)
              | (go_at_call 17; refine (HST.out _ _ _ _ _ (HLS.out _ _ _ o5 b6) o6).mono ?_; rintro e w7 ⟨rfl, b7⟩)
              | (go_at_call 20; refine (HTX.out _).mono ?_; rintro e w8 ⟨rfl, b8⟩))
        | fail
      all_goals
        have h := (by assumption : Below W.heap.size W _ ∧ _ ∧ _)
        show K _ _
        exact hK _ _ _ _ _ _ _ _ _ _ _ _ _ _ _ _ _ _ _ _ _ _ _ _ _ _ _ _ h.1
    · have g2 : decide (k ≤ 6) = false := by simp; omega
      obtain rfl : tb = false := by rw [← htb]; simp; omega
      clear htb h1 h6
      first
        | go_region_held3 (fun w' => Below W.heap.size W w' ∧ w'.cell? ⟨bb, 0, none⟩ = some (.int .i64 k) ∧ w'.cell? ⟨bb, 1, none⟩ = some (.int .i64 n) ∧ w'.cell? ⟨bb, 2, none⟩ = some (.string s) ∧ w'.cell? ⟨bb, 3, none⟩ = some (.slice ao al cap))
            (first
              | exact ⟨hwf, c0, c1, c2, c3⟩
              | (have h := (by assumption : Below W.heap.size W _ ∧ _ ∧ _); exact ⟨h.1.trans (b8.mono h.1.size), cell_later b8 h.2.1, cell_later b8 h.2.2.1, cell_later b8 h.2.2.2.1, cell_later b8 h.2.2.2.2⟩)
              | (have h := (by assumption : Below W.heap.size W _ ∧ _ ∧ _); exact ⟨h.1.trans (b7.mono h.1.size), cell_later b7 h.2.1, cell_later b7 h.2.2.1, cell_later b7 h.2.2.2.1, cell_later b7 h.2.2.2.2⟩)
              | (have h := (by assumption : Below W.heap.size W _ ∧ _ ∧ _); exact ⟨h.1.trans (b6.mono h.1.size), cell_later b6 h.2.1, cell_later b6 h.2.2.1, cell_later b6 h.2.2.2.1, cell_later b6 h.2.2.2.2⟩)
              | (have h := (by assumption : Below W.heap.size W _ ∧ _ ∧ _); exact ⟨h.1.trans (b5.mono h.1.size), cell_later b5 h.2.1, cell_later b5 h.2.2.1, cell_later b5 h.2.2.2.1, cell_later b5 h.2.2.2.2⟩)
              | (have h := (by assumption : Below W.heap.size W _ ∧ _ ∧ _); exact ⟨h.1.trans (b4.mono h.1.size), cell_later b4 h.2.1, cell_later b4 h.2.2.1, cell_later b4 h.2.2.2.1, cell_later b4 h.2.2.2.2⟩)
              | go_keep)
            (first
              | (go_at_call 16; have h := (by assumption : Below W.heap.size W _ ∧ _ ∧ _); refine (HCK.out _ h.1).mono ?_; clear h; rintro e w4 ⟨rfl, b4⟩)
              | (go_at_call 15; refine (HSM.out _).mono ?_; rintro e w9 ⟨rfl, rfl⟩)
              | (go_at_call 18; have h := (by assumption : Below W.heap.size W _ ∧ _ ∧ _); refine (HW1.out _ h.1).mono ?_; clear h; rintro e w5 ⟨a5, p5, rfl, o5, b5⟩)
              | (go_at_call 19; have h := (by assumption : Below W.heap.size W _ ∧ _ ∧ _); refine (HW2.out _ h.1).mono ?_; clear h; rintro e w6 ⟨a6, p6, rfl, o6, b6⟩)
              | (go_at_call 17; refine (HST.out _ _ _ _ _ (HLS.out _ _ _ o5 b6) o6).mono ?_; rintro e w7 ⟨rfl, b7⟩)
              | (go_at_call 20; refine (HTX.out _).mono ?_; rintro e w8 ⟨rfl, b8⟩))
        | fail
      all_goals
        have h := (by assumption : Below W.heap.size W _ ∧ _ ∧ _)
        show K _ _
        exact hK _ _ _ _ _ _ _ _ _ _ _ _ _ _ _ _ _ _ _ _ _ _ _ _ _ _ _ _ h.1
  · have g1 : decide (1 ≤ k) = false := by simp; omega
    obtain rfl : tb = false := by rw [← htb]; simp; omega
    clear htb h1
    refine wp_region_noPanic ?_
    refine wp_region_held_drew (S := (fun w' => Below W.heap.size W w' ∧ w'.cell? ⟨bb, 0, none⟩ = some (.int .i64 k) ∧ w'.cell? ⟨bb, 1, none⟩ = some (.int .i64 n) ∧ w'.cell? ⟨bb, 2, none⟩ = some (.string s) ∧ w'.cell? ⟨bb, 3, none⟩ = some (.slice ao al cap))) (by kernel_rfl) ?_ (fun hHeld => ?_)
    · (first | exact hHeld | exact ⟨hwf, c0, c1, c2, c3⟩ | (have h := (by assumption : Below W.heap.size W _ ∧ _ ∧ _); exact ⟨h.1.trans (b8.mono h.1.size), cell_later b8 h.2.1, cell_later b8 h.2.2.1, cell_later b8 h.2.2.2.1, cell_later b8 h.2.2.2.2⟩) | (have h := (by assumption : Below W.heap.size W _ ∧ _ ∧ _); exact ⟨h.1.trans (b7.mono h.1.size), cell_later b7 h.2.1, cell_later b7 h.2.2.1, cell_later b7 h.2.2.2.1, cell_later b7 h.2.2.2.2⟩) | (have h := (by assumption : Below W.heap.size W _ ∧ _ ∧ _); exact ⟨h.1.trans (b6.mono h.1.size), cell_later b6 h.2.1, cell_later b6 h.2.2.1, cell_later b6 h.2.2.2.1, cell_later b6 h.2.2.2.2⟩) | (have h := (by assumption : Below W.heap.size W _ ∧ _ ∧ _); exact ⟨h.1.trans (b5.mono h.1.size), cell_later b5 h.2.1, cell_later b5 h.2.2.1, cell_later b5 h.2.2.2.1, cell_later b5 h.2.2.2.2⟩) | (have h := (by assumption : Below W.heap.size W _ ∧ _ ∧ _); exact ⟨h.1.trans (b4.mono h.1.size), cell_later b4 h.2.1, cell_later b4 h.2.2.1, cell_later b4 h.2.2.2.1, cell_later b4 h.2.2.2.2⟩))
    dsimp only [List.size_toArray, List.length_cons, List.length_nil, Nat.reduceAdd]
    refine wpAnyH_take (i := 0) (oi := { dst := some 33, op := Op.load 24 (Operand.tmp 5), type := 24, pos := "law.go:142", after := #[], guard := none }) (v := ?_) rfl (by kernel_rfl) (by kernel_rfl) (by kernel_rfl) (fun _ _ _ h => h) (Or.inl ⟨by rfl, ?_⟩) (by assumption) ?_
    rotate_left
    · (intro w hSw; (try dsimp only at hSw); go_simp; try with_reducible rfl)
    try simp only [Act.put, List.setIfInBounds_toArray, List.set_cons_zero, List.set_cons_succ]
    refine wpAnyH_take (i := 1) (oi := { dst := some 34, op := Op.move (Operand.tmp 1), type := 4, pos := "law.go:142", after := #[], guard := none }) (v := ?_) rfl (by kernel_rfl) (by kernel_rfl) (by kernel_rfl) (fun _ _ _ h => h) (Or.inl ⟨by rfl, ?_⟩) (by assumption) ?_
    rotate_left
    · (intro w hSw; (try dsimp only at hSw); go_simp; try with_reducible rfl)
    try simp only [Act.put, List.setIfInBounds_toArray, List.set_cons_zero, List.set_cons_succ]
    refine wpAnyH_take (i := 2) (oi := { dst := some 35, op := Op.move (Operand.tmp 2), type := 4, pos := "law.go:142", after := #[], guard := none }) (v := ?_) rfl (by kernel_rfl) (by kernel_rfl) (by kernel_rfl) (fun _ _ _ h => h) (Or.inl ⟨by rfl, ?_⟩) (by assumption) ?_
    rotate_left
    · (intro w hSw; (try dsimp only at hSw); go_simp; try with_reducible rfl)
    try simp only [Act.put, List.setIfInBounds_toArray, List.set_cons_zero, List.set_cons_succ]
    refine wpAnyH_take (i := 4) (oi := { dst := some 37, op := Op.move (Operand.tmp 12), type := 3, pos := "law.go:142", after := #[], guard := none }) (v := ?_) rfl (by kernel_rfl) (by kernel_rfl) (by kernel_rfl) (fun _ _ _ h => h) (Or.inl ⟨by rfl, ?_⟩) (by assumption) ?_
    rotate_left
    · (intro w hSw; (try dsimp only at hSw); go_simp; try with_reducible rfl)
    try simp only [Act.put, List.setIfInBounds_toArray, List.set_cons_zero, List.set_cons_succ]
    refine wpAnyH_ready (rs := [3]) (by kernel_rfl) (by simp) ?_
    refine AllReadyH.cons (o := { dst := some 36, op := Op.call { callee := Callee.value (Operand.func 16), args := #[Operand.tmp 33, Operand.tmp 34, Operand.tmp 35], argTypes := #[24, 4, 4] }, type := 30, pos := "law.go:142", after := #[{ on := 0, ground := Ground.data }, { on := 1, ground := Ground.data }, { on := 2, ground := Ground.data }], guard := none }) rfl (fun KH hKH => ?_) AllReadyH.nil
    go_simp
    (first | (go_at_call 16; have h := (by assumption : Below W.heap.size W _ ∧ _ ∧ _); refine (HCK.out _ h.1).mono ?_; clear h; rintro e w4 ⟨rfl, b4⟩) | (go_at_call 15; refine (HSM.out _).mono ?_; rintro e w9 ⟨rfl, rfl⟩) | (go_at_call 18; have h := (by assumption : Below W.heap.size W _ ∧ _ ∧ _); refine (HW1.out _ h.1).mono ?_; clear h; rintro e w5 ⟨a5, p5, rfl, o5, b5⟩) | (go_at_call 19; have h := (by assumption : Below W.heap.size W _ ∧ _ ∧ _); refine (HW2.out _ h.1).mono ?_; clear h; rintro e w6 ⟨a6, p6, rfl, o6, b6⟩) | (go_at_call 17; refine (HST.out _ _ _ _ _ (HLS.out _ _ _ o5 b6) o6).mono ?_; rintro e w7 ⟨rfl, b7⟩) | (go_at_call 20; refine (HTX.out _).mono ?_; rintro e w8 ⟨rfl, b8⟩))
    try go_wp2_with fail
    refine hKH.out _ _ ?_ (fun hNew => ?_)
    · (first | exact hHeld | exact ⟨hwf, c0, c1, c2, c3⟩ | (have h := (by assumption : Below W.heap.size W _ ∧ _ ∧ _); exact ⟨h.1.trans (b8.mono h.1.size), cell_later b8 h.2.1, cell_later b8 h.2.2.1, cell_later b8 h.2.2.2.1, cell_later b8 h.2.2.2.2⟩) | (have h := (by assumption : Below W.heap.size W _ ∧ _ ∧ _); exact ⟨h.1.trans (b7.mono h.1.size), cell_later b7 h.2.1, cell_later b7 h.2.2.1, cell_later b7 h.2.2.2.1, cell_later b7 h.2.2.2.2⟩) | (have h := (by assumption : Below W.heap.size W _ ∧ _ ∧ _); exact ⟨h.1.trans (b6.mono h.1.size), cell_later b6 h.2.1, cell_later b6 h.2.2.1, cell_later b6 h.2.2.2.1, cell_later b6 h.2.2.2.2⟩) | (have h := (by assumption : Below W.heap.size W _ ∧ _ ∧ _); exact ⟨h.1.trans (b5.mono h.1.size), cell_later b5 h.2.1, cell_later b5 h.2.2.1, cell_later b5 h.2.2.2.1, cell_later b5 h.2.2.2.2⟩) | (have h := (by assumption : Below W.heap.size W _ ∧ _ ∧ _); exact ⟨h.1.trans (b4.mono h.1.size), cell_later b4 h.2.1, cell_later b4 h.2.2.1, cell_later b4 h.2.2.2.1, cell_later b4 h.2.2.2.2⟩))
    clear hKH KH hHeld
    have hHeld := hNew
    clear hNew
    refine wpAnyH_ready (rs := [5]) (by kernel_rfl) (by simp) ?_
    refine AllReadyH.cons (o := { dst := some 38, op := Op.call { callee := Callee.value (Operand.func 15), args := #[Operand.tmp 36, Operand.tmp 37], argTypes := #[30, 3] }, type := 4, pos := "law.go:142", after := #[{ on := 3, ground := Ground.data }, { on := 4, ground := Ground.data }, { on := 3, ground := Ground.chain }], guard := none }) rfl (fun KH hKH => ?_) AllReadyH.nil
    go_simp
    (first | (go_at_call 16; have h := (by assumption : Below W.heap.size W _ ∧ _ ∧ _); refine (HCK.out _ h.1).mono ?_; clear h; rintro e w4 ⟨rfl, b4⟩) | (go_at_call 15; refine (HSM.out _).mono ?_; rintro e w9 ⟨rfl, rfl⟩) | (go_at_call 18; have h := (by assumption : Below W.heap.size W _ ∧ _ ∧ _); refine (HW1.out _ h.1).mono ?_; clear h; rintro e w5 ⟨a5, p5, rfl, o5, b5⟩) | (go_at_call 19; have h := (by assumption : Below W.heap.size W _ ∧ _ ∧ _); refine (HW2.out _ h.1).mono ?_; clear h; rintro e w6 ⟨a6, p6, rfl, o6, b6⟩) | (go_at_call 17; refine (HST.out _ _ _ _ _ (HLS.out _ _ _ o5 b6) o6).mono ?_; rintro e w7 ⟨rfl, b7⟩) | (go_at_call 20; refine (HTX.out _).mono ?_; rintro e w8 ⟨rfl, b8⟩))
    try go_wp2_with fail
    refine hKH.out _ _ ?_ (fun hNew => ?_)
    · (first | exact hHeld | exact ⟨hwf, c0, c1, c2, c3⟩ | (have h := (by assumption : Below W.heap.size W _ ∧ _ ∧ _); exact ⟨h.1.trans (b8.mono h.1.size), cell_later b8 h.2.1, cell_later b8 h.2.2.1, cell_later b8 h.2.2.2.1, cell_later b8 h.2.2.2.2⟩) | (have h := (by assumption : Below W.heap.size W _ ∧ _ ∧ _); exact ⟨h.1.trans (b7.mono h.1.size), cell_later b7 h.2.1, cell_later b7 h.2.2.1, cell_later b7 h.2.2.2.1, cell_later b7 h.2.2.2.2⟩) | (have h := (by assumption : Below W.heap.size W _ ∧ _ ∧ _); exact ⟨h.1.trans (b6.mono h.1.size), cell_later b6 h.2.1, cell_later b6 h.2.2.1, cell_later b6 h.2.2.2.1, cell_later b6 h.2.2.2.2⟩) | (have h := (by assumption : Below W.heap.size W _ ∧ _ ∧ _); exact ⟨h.1.trans (b5.mono h.1.size), cell_later b5 h.2.1, cell_later b5 h.2.2.1, cell_later b5 h.2.2.2.1, cell_later b5 h.2.2.2.2⟩) | (have h := (by assumption : Below W.heap.size W _ ∧ _ ∧ _); exact ⟨h.1.trans (b4.mono h.1.size), cell_later b4 h.2.1, cell_later b4 h.2.2.1, cell_later b4 h.2.2.2.1, cell_later b4 h.2.2.2.2⟩))
    clear hKH KH hHeld
    have hHeld := hNew
    clear hNew
    refine wpAnyH_take (i := 6) (oi := { dst := some 39, op := Op.unOp UnOp.not 4 (Operand.tmp 38), type := 4, pos := "law.go:142", after := #[{ on := 5, ground := Ground.data }], guard := none }) (v := ?_) rfl (by kernel_rfl) (by kernel_rfl) (by kernel_rfl) (fun _ _ _ h => h) (Or.inl ⟨by rfl, ?_⟩) (by assumption) ?_
    rotate_left
    · (intro w hSw; (try dsimp only at hSw); go_simp; try with_reducible rfl)
    try simp only [Act.put, List.setIfInBounds_toArray, List.set_cons_zero, List.set_cons_succ]
    refine wpAnyH_take (i := 7) (oi := { dst := some 40, op := Op.move (Operand.tmp 39), type := 4, pos := "law.go:142", after := #[{ on := 6, ground := Ground.data }, { on := 5, ground := Ground.chain }], guard := none }) (v := ?_) rfl (by kernel_rfl) (by kernel_rfl) (by kernel_rfl) (fun _ _ _ h => h) (Or.inl ⟨by rfl, ?_⟩) (by assumption) ?_
    rotate_left
    · (intro w hSw; (try dsimp only at hSw); go_simp; try with_reducible rfl)
    try simp only [Act.put, List.setIfInBounds_toArray, List.set_cons_zero, List.set_cons_succ]
    refine wpAnyH_take (i := 8) (oi := { dst := some 41, op := Op.move (Operand.tmp 3), type := 9, pos := "law.go:142", after := #[{ on := 7, ground := Ground.guard }], guard := some (7, false) }) (v := ?_) rfl (by kernel_rfl) (by kernel_rfl) (by kernel_rfl) (fun _ _ _ h => h) (Or.inl ⟨by rfl, ?_⟩) (by assumption) ?_
    rotate_left
    · (intro w hSw; (try dsimp only at hSw); go_simp; try with_reducible rfl)
    try simp only [Act.put, List.setIfInBounds_toArray, List.set_cons_zero, List.set_cons_succ]
    refine wpAnyH_take (i := 10) (oi := { dst := some 43, op := Op.move (Operand.tmp 3), type := 9, pos := "law.go:142", after := #[{ on := 7, ground := Ground.guard }], guard := some (7, false) }) (v := ?_) rfl (by kernel_rfl) (by kernel_rfl) (by kernel_rfl) (fun _ _ _ h => h) (Or.inl ⟨by rfl, ?_⟩) (by assumption) ?_
    rotate_left
    · (intro w hSw; (try dsimp only at hSw); go_simp; try with_reducible rfl)
    try simp only [Act.put, List.setIfInBounds_toArray, List.set_cons_zero, List.set_cons_succ]
    refine wpAnyH_ready (rs := [9]) (by kernel_rfl) (by simp) ?_
    refine AllReadyH.cons (o := { dst := some 42, op := Op.call { callee := Callee.value (Operand.func 18), args := #[Operand.tmp 41], argTypes := #[9] }, type := 33, pos := "law.go:142", after := #[{ on := 8, ground := Ground.data }, { on := 7, ground := Ground.chain }, { on := 7, ground := Ground.guard }], guard := some (7, false) }) rfl (fun KH hKH => ?_) AllReadyH.nil
    go_simp
    (first | (go_at_call 16; have h := (by assumption : Below W.heap.size W _ ∧ _ ∧ _); refine (HCK.out _ h.1).mono ?_; clear h; rintro e w4 ⟨rfl, b4⟩) | (go_at_call 15; refine (HSM.out _).mono ?_; rintro e w9 ⟨rfl, rfl⟩) | (go_at_call 18; have h := (by assumption : Below W.heap.size W _ ∧ _ ∧ _); refine (HW1.out _ h.1).mono ?_; clear h; rintro e w5 ⟨a5, p5, rfl, o5, b5⟩) | (go_at_call 19; have h := (by assumption : Below W.heap.size W _ ∧ _ ∧ _); refine (HW2.out _ h.1).mono ?_; clear h; rintro e w6 ⟨a6, p6, rfl, o6, b6⟩) | (go_at_call 17; refine (HST.out _ _ _ _ _ (HLS.out _ _ _ o5 b6) o6).mono ?_; rintro e w7 ⟨rfl, b7⟩) | (go_at_call 20; refine (HTX.out _).mono ?_; rintro e w8 ⟨rfl, b8⟩))
    try go_wp2_with fail
    refine hKH.out _ _ ?_ (fun hNew => ?_)
    · (first | exact hHeld | exact ⟨hwf, c0, c1, c2, c3⟩ | (have h := (by assumption : Below W.heap.size W _ ∧ _ ∧ _); exact ⟨h.1.trans (b8.mono h.1.size), cell_later b8 h.2.1, cell_later b8 h.2.2.1, cell_later b8 h.2.2.2.1, cell_later b8 h.2.2.2.2⟩) | (have h := (by assumption : Below W.heap.size W _ ∧ _ ∧ _); exact ⟨h.1.trans (b7.mono h.1.size), cell_later b7 h.2.1, cell_later b7 h.2.2.1, cell_later b7 h.2.2.2.1, cell_later b7 h.2.2.2.2⟩) | (have h := (by assumption : Below W.heap.size W _ ∧ _ ∧ _); exact ⟨h.1.trans (b6.mono h.1.size), cell_later b6 h.2.1, cell_later b6 h.2.2.1, cell_later b6 h.2.2.2.1, cell_later b6 h.2.2.2.2⟩) | (have h := (by assumption : Below W.heap.size W _ ∧ _ ∧ _); exact ⟨h.1.trans (b5.mono h.1.size), cell_later b5 h.2.1, cell_later b5 h.2.2.1, cell_later b5 h.2.2.2.1, cell_later b5 h.2.2.2.2⟩) | (have h := (by assumption : Below W.heap.size W _ ∧ _ ∧ _); exact ⟨h.1.trans (b4.mono h.1.size), cell_later b4 h.2.1, cell_later b4 h.2.2.1, cell_later b4 h.2.2.2.1, cell_later b4 h.2.2.2.2⟩))
    clear hKH KH hHeld
    have hHeld := hNew
    clear hNew
    refine wpAnyH_ready (rs := [11]) (by kernel_rfl) (by simp) ?_
    refine AllReadyH.cons (o := { dst := some 44, op := Op.call { callee := Callee.value (Operand.func 19), args := #[Operand.tmp 43], argTypes := #[9] }, type := 33, pos := "law.go:142", after := #[{ on := 10, ground := Ground.data }, { on := 9, ground := Ground.chain }, { on := 7, ground := Ground.guard }], guard := some (7, false) }) rfl (fun KH hKH => ?_) AllReadyH.nil
    go_simp
    (first | (go_at_call 16; have h := (by assumption : Below W.heap.size W _ ∧ _ ∧ _); refine (HCK.out _ h.1).mono ?_; clear h; rintro e w4 ⟨rfl, b4⟩) | (go_at_call 15; refine (HSM.out _).mono ?_; rintro e w9 ⟨rfl, rfl⟩) | (go_at_call 18; have h := (by assumption : Below W.heap.size W _ ∧ _ ∧ _); refine (HW1.out _ h.1).mono ?_; clear h; rintro e w5 ⟨a5, p5, rfl, o5, b5⟩) | (go_at_call 19; have h := (by assumption : Below W.heap.size W _ ∧ _ ∧ _); refine (HW2.out _ h.1).mono ?_; clear h; rintro e w6 ⟨a6, p6, rfl, o6, b6⟩) | (go_at_call 17; refine (HST.out _ _ _ _ _ (HLS.out _ _ _ o5 b6) o6).mono ?_; rintro e w7 ⟨rfl, b7⟩) | (go_at_call 20; refine (HTX.out _).mono ?_; rintro e w8 ⟨rfl, b8⟩))
    try go_wp2_with fail
    refine hKH.out _ _ ?_ (fun hNew => ?_)
    · (first | exact hHeld | exact ⟨hwf, c0, c1, c2, c3⟩ | (have h := (by assumption : Below W.heap.size W _ ∧ _ ∧ _); exact ⟨h.1.trans (b8.mono h.1.size), cell_later b8 h.2.1, cell_later b8 h.2.2.1, cell_later b8 h.2.2.2.1, cell_later b8 h.2.2.2.2⟩) | (have h := (by assumption : Below W.heap.size W _ ∧ _ ∧ _); exact ⟨h.1.trans (b7.mono h.1.size), cell_later b7 h.2.1, cell_later b7 h.2.2.1, cell_later b7 h.2.2.2.1, cell_later b7 h.2.2.2.2⟩) | (have h := (by assumption : Below W.heap.size W _ ∧ _ ∧ _); exact ⟨h.1.trans (b6.mono h.1.size), cell_later b6 h.2.1, cell_later b6 h.2.2.1, cell_later b6 h.2.2.2.1, cell_later b6 h.2.2.2.2⟩) | (have h := (by assumption : Below W.heap.size W _ ∧ _ ∧ _); exact ⟨h.1.trans (b5.mono h.1.size), cell_later b5 h.2.1, cell_later b5 h.2.2.1, cell_later b5 h.2.2.2.1, cell_later b5 h.2.2.2.2⟩) | (have h := (by assumption : Below W.heap.size W _ ∧ _ ∧ _); exact ⟨h.1.trans (b4.mono h.1.size), cell_later b4 h.2.1, cell_later b4 h.2.2.1, cell_later b4 h.2.2.2.1, cell_later b4 h.2.2.2.2⟩))
    clear hKH KH hHeld
    have hHeld := hNew
    clear hNew
    refine wpAnyH_ready (rs := [12]) (by kernel_rfl) (by simp) ?_
    refine AllReadyH.cons (o := { dst := some 45, op := Op.call { callee := Callee.value (Operand.func 17), args := #[Operand.tmp 42, Operand.tmp 44], argTypes := #[33, 33] }, type := 4, pos := "law.go:142", after := #[{ on := 9, ground := Ground.data }, { on := 11, ground := Ground.data }, { on := 11, ground := Ground.chain }, { on := 7, ground := Ground.guard }], guard := some (7, false) }) rfl (fun KH hKH => ?_) AllReadyH.nil
    go_simp
    (first | (go_at_call 16; have h := (by assumption : Below W.heap.size W _ ∧ _ ∧ _); refine (HCK.out _ h.1).mono ?_; clear h; rintro e w4 ⟨rfl, b4⟩) | (go_at_call 15; refine (HSM.out _).mono ?_; rintro e w9 ⟨rfl, rfl⟩) | (go_at_call 18; have h := (by assumption : Below W.heap.size W _ ∧ _ ∧ _); refine (HW1.out _ h.1).mono ?_; clear h; rintro e w5 ⟨a5, p5, rfl, o5, b5⟩) | (go_at_call 19; have h := (by assumption : Below W.heap.size W _ ∧ _ ∧ _); refine (HW2.out _ h.1).mono ?_; clear h; rintro e w6 ⟨a6, p6, rfl, o6, b6⟩) | (go_at_call 17; refine (HST.out _ _ _ _ _ (HLS.out _ _ _ o5 b6) o6).mono ?_; rintro e w7 ⟨rfl, b7⟩) | (go_at_call 20; refine (HTX.out _).mono ?_; rintro e w8 ⟨rfl, b8⟩))
    try go_wp2_with fail
    refine hKH.out _ _ ?_ (fun hNew => ?_)
    · (first | exact hHeld | exact ⟨hwf, c0, c1, c2, c3⟩ | (have h := (by assumption : Below W.heap.size W _ ∧ _ ∧ _); exact ⟨h.1.trans (b8.mono h.1.size), cell_later b8 h.2.1, cell_later b8 h.2.2.1, cell_later b8 h.2.2.2.1, cell_later b8 h.2.2.2.2⟩) | (have h := (by assumption : Below W.heap.size W _ ∧ _ ∧ _); exact ⟨h.1.trans (b7.mono h.1.size), cell_later b7 h.2.1, cell_later b7 h.2.2.1, cell_later b7 h.2.2.2.1, cell_later b7 h.2.2.2.2⟩) | (have h := (by assumption : Below W.heap.size W _ ∧ _ ∧ _); exact ⟨h.1.trans (b6.mono h.1.size), cell_later b6 h.2.1, cell_later b6 h.2.2.1, cell_later b6 h.2.2.2.1, cell_later b6 h.2.2.2.2⟩) | (have h := (by assumption : Below W.heap.size W _ ∧ _ ∧ _); exact ⟨h.1.trans (b5.mono h.1.size), cell_later b5 h.2.1, cell_later b5 h.2.2.1, cell_later b5 h.2.2.2.1, cell_later b5 h.2.2.2.2⟩) | (have h := (by assumption : Below W.heap.size W _ ∧ _ ∧ _); exact ⟨h.1.trans (b4.mono h.1.size), cell_later b4 h.2.1, cell_later b4 h.2.2.1, cell_later b4 h.2.2.2.1, cell_later b4 h.2.2.2.2⟩))
    clear hKH KH hHeld
    have hHeld := hNew
    clear hNew
    refine wpAnyH_take (i := 13) (oi := { dst := some 46, op := Op.unOp UnOp.not 4 (Operand.tmp 45), type := 4, pos := "law.go:142", after := #[{ on := 12, ground := Ground.data }, { on := 7, ground := Ground.guard }], guard := some (7, false) }) (v := ?_) rfl (by kernel_rfl) (by kernel_rfl) (by kernel_rfl) (fun _ _ _ h => h) (Or.inl ⟨by rfl, ?_⟩) (by assumption) ?_
    rotate_left
    · (intro w hSw; (try dsimp only at hSw); go_simp; try with_reducible rfl)
    try simp only [Act.put, List.setIfInBounds_toArray, List.set_cons_zero, List.set_cons_succ]
    refine wpAnyH_take (i := 14) (oi := { dst := some 47, op := Op.pick (Operand.tmp 40) (Operand.const (Value.bool true)) (Operand.tmp 46), type := 4, pos := "law.go:142", after := #[{ on := 7, ground := Ground.data }, { on := 13, ground := Ground.data }], guard := none }) (v := ?_) rfl (by kernel_rfl) (by kernel_rfl) (by kernel_rfl) (fun _ _ _ h => h) (Or.inl ⟨by rfl, ?_⟩) (by assumption) ?_
    rotate_left
    · (intro w hSw; (try dsimp only at hSw); go_simp; try with_reducible rfl)
    try simp only [Act.put, List.setIfInBounds_toArray, List.set_cons_zero, List.set_cons_succ]
    refine wpAnyH_take (i := 15) (oi := { dst := some 48, op := Op.move (Operand.tmp 47), type := 4, pos := "law.go:142", after := #[{ on := 14, ground := Ground.data }, { on := 12, ground := Ground.chain }], guard := none }) (v := ?_) rfl (by kernel_rfl) (by kernel_rfl) (by kernel_rfl) (fun _ _ _ h => h) (Or.inl ⟨by rfl, ?_⟩) (by assumption) ?_
    rotate_left
    · (intro w hSw; (try dsimp only at hSw); go_simp; try with_reducible rfl)
    try simp only [Act.put, List.setIfInBounds_toArray, List.set_cons_zero, List.set_cons_succ]
    refine wpAnyH_take (i := 16) (oi := { dst := some 49, op := Op.load 24 (Operand.tmp 5), type := 24, pos := "law.go:142", after := #[{ on := 15, ground := Ground.guard }], guard := some (15, false) }) (v := ?_) rfl (by kernel_rfl) (by kernel_rfl) (by kernel_rfl) (fun _ _ _ h => h) (Or.inl ⟨by rfl, ?_⟩) (by assumption) ?_
    rotate_left
    · (intro w hSw; (try dsimp only at hSw); go_simp; try with_reducible rfl)
    try simp only [Act.put, List.setIfInBounds_toArray, List.set_cons_zero, List.set_cons_succ]
    refine wpAnyH_take (i := 18) (oi := { dst := some 51, op := Op.fieldAddr 24 (Operand.tmp 5) 0, type := 0, pos := "law.go:142", after := #[{ on := 15, ground := Ground.guard }], guard := some (15, false) }) (v := ?_) rfl (by kernel_rfl) (by kernel_rfl) (by kernel_rfl) (fun _ _ _ h => h) (Or.inl ⟨by rfl, ?_⟩) (by assumption) ?_
    rotate_left
    · (intro w hSw; (try dsimp only at hSw); go_simp; try with_reducible rfl)
    try simp only [Act.put, List.setIfInBounds_toArray, List.set_cons_zero, List.set_cons_succ]
    refine wpAnyH_take (i := 19) (oi := { dst := some 52, op := Op.load 3 (Operand.tmp 51), type := 3, pos := "law.go:142", after := #[{ on := 18, ground := Ground.data }, { on := 15, ground := Ground.guard }], guard := some (15, false) }) (v := ?_) rfl (by kernel_rfl) (by kernel_rfl) (by kernel_rfl) (fun _ _ _ h => h) (Or.inl ⟨by rfl, ?_⟩) (by assumption) ?_
    rotate_left
    · (intro w hSw; (try dsimp only at hSw); go_simp; try with_reducible rfl)
    try simp only [Act.put, List.setIfInBounds_toArray, List.set_cons_zero, List.set_cons_succ]
    refine wpAnyH_take (i := 20) (oi := { dst := some 53, op := Op.binOp BinOp.geq 3 (Operand.tmp 52) (Operand.const (Value.int IntKind.i64 1)) 3, type := 4, pos := "law.go:142", after := #[{ on := 19, ground := Ground.data }, { on := 15, ground := Ground.guard }], guard := some (15, false) }) (v := ?_) rfl (by kernel_rfl) (by kernel_rfl) (by kernel_rfl) (fun _ _ _ h => h) (Or.inl ⟨by rfl, ?_⟩) (by assumption) ?_
    rotate_left
    · (intro w hSw; (try dsimp only at hSw); go_simp; try with_reducible rfl)
    try simp only [Act.put, List.setIfInBounds_toArray, List.set_cons_zero, List.set_cons_succ]
    refine wpAnyH_ready (rs := [17]) (by kernel_rfl) (by simp) ?_
    refine AllReadyH.cons (o := { dst := some 50, op := Op.call { callee := Callee.value (Operand.func 20), args := #[Operand.tmp 49], argTypes := #[24] }, type := 4, pos := "law.go:142", after := #[{ on := 16, ground := Ground.data }, { on := 15, ground := Ground.chain }, { on := 15, ground := Ground.guard }], guard := some (15, false) }) rfl (fun KH hKH => ?_) AllReadyH.nil
    go_simp
    (first | (go_at_call 16; have h := (by assumption : Below W.heap.size W _ ∧ _ ∧ _); refine (HCK.out _ h.1).mono ?_; clear h; rintro e w4 ⟨rfl, b4⟩) | (go_at_call 15; refine (HSM.out _).mono ?_; rintro e w9 ⟨rfl, rfl⟩) | (go_at_call 18; have h := (by assumption : Below W.heap.size W _ ∧ _ ∧ _); refine (HW1.out _ h.1).mono ?_; clear h; rintro e w5 ⟨a5, p5, rfl, o5, b5⟩) | (go_at_call 19; have h := (by assumption : Below W.heap.size W _ ∧ _ ∧ _); refine (HW2.out _ h.1).mono ?_; clear h; rintro e w6 ⟨a6, p6, rfl, o6, b6⟩) | (go_at_call 17; refine (HST.out _ _ _ _ _ (HLS.out _ _ _ o5 b6) o6).mono ?_; rintro e w7 ⟨rfl, b7⟩) | (go_at_call 20; refine (HTX.out _).mono ?_; rintro e w8 ⟨rfl, b8⟩))
    try go_wp2_with fail
    refine hKH.out _ _ ?_ (fun hNew => ?_)
    · (first | exact hHeld | exact ⟨hwf, c0, c1, c2, c3⟩ | (have h := (by assumption : Below W.heap.size W _ ∧ _ ∧ _); exact ⟨h.1.trans (b8.mono h.1.size), cell_later b8 h.2.1, cell_later b8 h.2.2.1, cell_later b8 h.2.2.2.1, cell_later b8 h.2.2.2.2⟩) | (have h := (by assumption : Below W.heap.size W _ ∧ _ ∧ _); exact ⟨h.1.trans (b7.mono h.1.size), cell_later b7 h.2.1, cell_later b7 h.2.2.1, cell_later b7 h.2.2.2.1, cell_later b7 h.2.2.2.2⟩) | (have h := (by assumption : Below W.heap.size W _ ∧ _ ∧ _); exact ⟨h.1.trans (b6.mono h.1.size), cell_later b6 h.2.1, cell_later b6 h.2.2.1, cell_later b6 h.2.2.2.1, cell_later b6 h.2.2.2.2⟩) | (have h := (by assumption : Below W.heap.size W _ ∧ _ ∧ _); exact ⟨h.1.trans (b5.mono h.1.size), cell_later b5 h.2.1, cell_later b5 h.2.2.1, cell_later b5 h.2.2.2.1, cell_later b5 h.2.2.2.2⟩) | (have h := (by assumption : Below W.heap.size W _ ∧ _ ∧ _); exact ⟨h.1.trans (b4.mono h.1.size), cell_later b4 h.2.1, cell_later b4 h.2.2.1, cell_later b4 h.2.2.2.1, cell_later b4 h.2.2.2.2⟩))
    clear hKH KH hHeld
    have hHeld := hNew
    clear hNew
    refine wpAnyH_take (i := 21) (oi := { dst := some 54, op := Op.move (Operand.tmp 53), type := 4, pos := "law.go:142", after := #[{ on := 20, ground := Ground.data }, { on := 17, ground := Ground.chain }, { on := 15, ground := Ground.guard }], guard := some (15, false) }) (v := ?_) rfl (by kernel_rfl) (by kernel_rfl) (by kernel_rfl) (fun _ _ _ h => h) (Or.inl ⟨by rfl, ?_⟩) (by assumption) ?_
    rotate_left
    · (intro w hSw; (try dsimp only at hSw); go_simp; try with_reducible rfl)
    try simp only [Act.put, List.setIfInBounds_toArray, List.set_cons_zero, List.set_cons_succ]
    refine wpAnyH_take (i := 22) (oi := { dst := some 55, op := Op.fieldAddr 24 (Operand.tmp 5) 0, type := 0, pos := "law.go:142", after := #[{ on := 21, ground := Ground.guard }], guard := some (21, true) }) (v := undef) rfl (by kernel_rfl) (by kernel_rfl) (by kernel_rfl) (fun _ _ _ h => h) (Or.inr ⟨by rfl, rfl⟩) (by assumption) ?_
    try simp only [Act.put, List.setIfInBounds_toArray, List.set_cons_zero, List.set_cons_succ]
    refine wpAnyH_take (i := 23) (oi := { dst := some 56, op := Op.load 3 (Operand.tmp 55), type := 3, pos := "law.go:142", after := #[{ on := 22, ground := Ground.data }, { on := 21, ground := Ground.guard }], guard := some (21, true) }) (v := undef) rfl (by kernel_rfl) (by kernel_rfl) (by kernel_rfl) (fun _ _ _ h => h) (Or.inr ⟨by rfl, rfl⟩) (by assumption) ?_
    try simp only [Act.put, List.setIfInBounds_toArray, List.set_cons_zero, List.set_cons_succ]
    refine wpAnyH_take (i := 24) (oi := { dst := some 57, op := Op.binOp BinOp.leq 3 (Operand.tmp 56) (Operand.const (Value.int IntKind.i64 6)) 3, type := 4, pos := "law.go:142", after := #[{ on := 23, ground := Ground.data }, { on := 21, ground := Ground.guard }], guard := some (21, true) }) (v := undef) rfl (by kernel_rfl) (by kernel_rfl) (by kernel_rfl) (fun _ _ _ h => h) (Or.inr ⟨by rfl, rfl⟩) (by assumption) ?_
    try simp only [Act.put, List.setIfInBounds_toArray, List.set_cons_zero, List.set_cons_succ]
    refine wpAnyH_take (i := 25) (oi := { dst := some 58, op := Op.pick (Operand.tmp 54) (Operand.tmp 57) (Operand.const (Value.bool false)), type := 4, pos := "law.go:142", after := #[{ on := 21, ground := Ground.data }, { on := 24, ground := Ground.data }, { on := 15, ground := Ground.guard }], guard := some (15, false) }) (v := ?_) rfl (by kernel_rfl) (by kernel_rfl) (by kernel_rfl) (fun _ _ _ h => h) (Or.inl ⟨by rfl, ?_⟩) (by assumption) ?_
    rotate_left
    · (intro w hSw; (try dsimp only at hSw); go_simp; try with_reducible rfl)
    try simp only [Act.put, List.setIfInBounds_toArray, List.set_cons_zero, List.set_cons_succ]
    refine wpAnyH_take (i := 26) (oi := { dst := some 59, op := Op.binOp BinOp.neq 4 (Operand.tmp 50) (Operand.tmp 58) 4, type := 4, pos := "law.go:142", after := #[{ on := 17, ground := Ground.data }, { on := 25, ground := Ground.data }, { on := 15, ground := Ground.guard }], guard := some (15, false) }) (v := ?_) rfl (by kernel_rfl) (by kernel_rfl) (by kernel_rfl) (fun _ _ _ h => h) (Or.inl ⟨by rfl, ?_⟩) (by assumption) ?_
    rotate_left
    · (intro w hSw; (try dsimp only at hSw); go_simp; try with_reducible rfl)
    try simp only [Act.put, List.setIfInBounds_toArray, List.set_cons_zero, List.set_cons_succ]
    refine wpAnyH_take (i := 27) (oi := { dst := some 60, op := Op.pick (Operand.tmp 48) (Operand.const (Value.bool true)) (Operand.tmp 59), type := 4, pos := "law.go:142", after := #[{ on := 15, ground := Ground.data }, { on := 26, ground := Ground.data }], guard := none }) (v := ?_) rfl (by kernel_rfl) (by kernel_rfl) (by kernel_rfl) (fun _ _ _ h => h) (Or.inl ⟨by rfl, ?_⟩) (by assumption) ?_
    rotate_left
    · (intro w hSw; (try dsimp only at hSw); go_simp; try with_reducible rfl)
    try simp only [Act.put, List.setIfInBounds_toArray, List.set_cons_zero, List.set_cons_succ]
    refine wpAnyH_done (by kernel_rfl) ?_ _
    refine NoPanic.normal ?_
    show K _ _
    exact hK _ _ _ _ _ _ _ _ _ _ _ _ _ _ _ _ _ _ _ _ _ _ _ _ _ _ _ _ hHeld.1
end Go.Proofs.YtkodbldfoldbjaaDoor
