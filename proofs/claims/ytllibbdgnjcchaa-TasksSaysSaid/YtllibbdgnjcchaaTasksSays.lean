/- 'TasksSays' returns true for every input and leaves its arguments as they were; no condition. -/
import Derived.Test.YtllibbdgnjcchaaTasksActs
namespace Go.Proofs.Ytllibbdgnjcchaa
open Go.RowKit Go.ChangeShapes Go.WideShapes Go.ChangeAt

def Kb (A : Ads) (w w' : World) : Prop := KeptBut (fun q => q = A.pb ∨ q = A.qb) w w'
def Mine (A : Ads) (w : World) (v : Value) (l : List Int) : Prop := ∃ B, A.pb < B ∧ A.qb < B ∧ Own 1 encInt 3 w B v l
theorem Mine.kept {A : Ads} {w w' : World} {v : Value} {l : List Int} (h : Mine A w v l) (k : Kb A w w') : Mine A w' v l := by
  obtain ⟨B, h1, h2, o⟩ := h
  exact ⟨B, h1, h2, KeptBut.own k o (fun q e => by have := (o.lt q e).1; omega)⟩
theorem Mine.form {A : Ads} {w : World} {v : Value} {l : List Int} (h : Mine A w v l) : ∃ ao cap, v = .slice ao l.length cap ∧ Sl 1 encInt w ao l := by
  obtain ⟨B, h1, h2, o⟩ := h
  obtain ⟨ao, cap, rfl⟩ := o.1
  exact ⟨ao, cap, rfl, o.sl encInt_len⟩
theorem TT.ltT {w0 w : World} {A : Ads} {ps ss : List (Int × Int)} {P Q W : List Int} (h : TT w0 w A ps ss P Q W) : A.tb < w.heap.size ∧ A.pb < w.heap.size ∧ A.sb < w.heap.size := by
  have h1 := h.h1; have h2 := h.h2; have h3 := h.h3; omega
theorem lose_c {w0 w : World} {A : Ads} {ps ss : List (Int × Int)} {P Q W : List Int} (wk : Int) (h : TT w0 w A ps ss P Q W) :
    Calls Try.prog 44 #[.pointer (some ⟨A.tb, 0, none⟩), .int .i64 wk] w fun e w' => ∃ v, e = .returned v ∧ Kb A w w' ∧ Mine A w' v (loseO ps wk ps.length) ∧ TT w0 w' A (loseP ps wk ps.length) ss P Q W := by
  obtain ⟨l1, l2, l3⟩ := h.ltT
  have h3 := h.h3
  refine (Lose_any wk h.rt l1 l2 l3).mono ?_
  rintro e w1 ⟨v, rfl, o, k, r⟩
  exact ⟨v, rfl, k.mono fun q e => Or.inl e, ⟨_, l2, h3.2.1, o⟩, h.stepT (k.mono fun q e => Or.inl e) r⟩
theorem lost_c {w0 w : World} {A : Ads} {ps ss qs : List (Int × Int)} {Q W : List Int} (wk : Int) (h : TT w0 w A ps ss (qs.map (·.1)) Q W) (hw : WR qs W) :
    Calls Try.prog 45 #[.pointer (some ⟨A.mb, 0, none⟩), .int .i64 wk] w fun e w' => ∃ v, e = .returned v ∧ Kb A w w' ∧ Mine A w' v (loseO qs wk qs.length) ∧ TT w0 w' A ps ss ((loseP qs wk qs.length).map (·.1)) Q W := by
  obtain ⟨l1, l2, l3⟩ := h.ltT
  have h3 := h.h3
  refine (Lost_any wk h.rm hw h3.1 h3.2.1 h3.2.2.1 h3.2.2.2).mono ?_
  rintro e w1 ⟨v, rfl, o, k, r⟩
  exact ⟨v, rfl, k.mono fun q e => Or.inr e, ⟨_, l2, h3.2.1, o⟩, h.stepM (k.mono fun q e => Or.inl e) r⟩
theorem WR.lose {ps : List (Int × Int)} {W : List Int} (h : WR ps W) (wk : Int) (k : Nat) : WR (loseP ps wk k) W := by
  induction k with
  | zero => exact h
  | succ k ih =>
    unfold loseP
    split
    · exact ih.set (fun e => by cases e)
    · exact ih

theorem cell_new (w : World) {cs : Array Value} (t : TypeId) {j : Nat} {v : Value} (h : cs[j]? = some v) : (w.alloc (.cells cs t)).cell? ⟨w.heap.size, j, none⟩ = some v := by
  have := heap_new w (.cells cs t)
  simp only [World.cell?]
  rw [this]
  exact h
theorem Kb.cell {w0 wr w w' : World} {A : Ads} {ps ss : List (Int × Int)} {P Q W : List Int} {j : Nat} {v : Value} (k : Kb A w w') (h : TT w0 wr A ps ss P Q W) (hc : w.cell? ⟨wr.heap.size, j, none⟩ = some v) : w'.cell? ⟨wr.heap.size, j, none⟩ = some v := by
  have h1 := h.h1; have h2 := h.h2; have h3 := h.h3
  exact KeptBut.cell k hc (by simp only []; omega)
theorem Mine.sl {A : Ads} {w : World} {ao : Option Addr} {n cap : Nat} {l : List Int} (h : Mine A w (.slice ao n cap) l) : Sl 1 encInt w ao l := by
  obtain ⟨ao', cap', e, s⟩ := h.form
  cases e; exact s
set_option maxRecDepth 100000 in
set_option maxHeartbeats 8000000 in
theorem TasksSays_walk (p s : Int) (ao : Option Addr) (cap : Nat) (l : List ActV) (w : World) (hl : l.length ≤ maxLen) (hok : ∀ x ∈ l, ActOk x) (hs : Sl 7 encA w ao l) :
    Calls Try.prog 6 #[.int .i64 p, .int .i64 s, .slice ao l.length cap] w fun e w' => e = .returned (.bool true) ∧ Below w.heap.size w w' := by
  go_enter Try.func6, Try.ntmps6
  go_wp2_with fail
  refine (lists_any _).mono ?_
  rintro e w0 ⟨rfl, hb0⟩
  go_wp2_with fail
  refine (LightActs_any ao cap l w0 hl hok (hs.later hb0 (Nat.le_refl _))).mono ?_
  rintro e w1 ⟨bb, rfl, rfl, hli⟩
  cases bb
  · clear hli
    go_wp2
    go_ret
    exact ⟨rfl, hb0⟩
  · obtain ⟨hl80, hli⟩ := hli rfl
    have HOKL := hide hok; clear hok hli
    by_cases hr : 0 ≤ p ∧ p ≤ 60 ∧ 1 ≤ s ∧ s ≤ 4
    · obtain ⟨m, rfl⟩ : ∃ m : Nat, p = m := ⟨p.toNat, by omega⟩
      obtain ⟨n, rfl⟩ : ∃ n : Nat, s = n := ⟨s.toNat, by omega⟩
      obtain ⟨r1, r2, r3, r4⟩ := hr
      go_wp2_with fail
      refine (NewTasks_ok m n _ (by omega) (by omega) (by omega)).mono ?_
      rintro e w1 ⟨tb, pb, sb, rfl, hb1, t1, t2, t3, t4, t5, hrt⟩
      go_wp2_with fail
      refine (RefNewTasks_ok m n _ (by omega) (by omega) (by omega)).mono ?_
      rintro e w2 ⟨mb, qb, rb, hb, rfl, hb2, u1, u2, u3, u4, u5, u6, u7, hrm⟩
      have s0 := hb0.size; have s1 := hb1.size
      have hT : ∃ ps ss W, WR ps W ∧ TT w w2 ⟨w0.heap.size, w1.heap.size, tb, pb, sb, mb, qb, rb, hb⟩ ps ss (ps.map (·.1)) (ss.map (·.1)) W := by
        refine ⟨List.replicate m (0, 0), List.replicate n (0, 0), List.replicate m 0, ?_, ?_⟩
        · intro i b h
          rw [List.getElem?_replicate] at h
          split at h <;> cases h
        · rw [List.map_replicate, List.map_replicate]
          exact ⟨hrt.below hb2, hrm, (hb0.trans (hb1.mono s0)).trans (hb2.mono (by omega)), by have := hrt.bt; exact ⟨t1, t2, t3, Nat.le_trans s0 this, Nat.le_trans s0 t4, Nat.le_trans s0 t5⟩, ⟨hrm.bt, u5, u6, u7⟩, ⟨u1, u2, u3, u4⟩⟩
      generalize hA : (⟨w0.heap.size, w1.heap.size, tb, pb, sb, mb, qb, rb, hb⟩ : Ads) = A at hT
      obtain rfl : tb = A.tb := by rw [← hA]
      obtain rfl : mb = A.mb := by rw [← hA]
      clear hA hrt hrm u1 u2 u3 u4 u5 u6 u7 t1 t2 t3 t4 t5 hb0 hb1 hb2 s0 s1 r1 r2 r3 r4
      go_wp2
      go_loopw [12] (fun i wr => ∃ k : Nat, k ≤ l.length ∧ i = .int .i64 k ∧ ∃ ps ss W, WR ps W ∧ TT w wr A ps ss (ps.map (·.1)) (ss.map (·.1)) W) (fun i _ => l.length - (intOf i).toNat)
      case atStart => exact ⟨0, by omega, rfl, hT⟩
      clear hT
      case round =>
        obtain ⟨k, hk, rfl, ps, ss, W, hw, hT⟩ := hrel
        have hsr := hs.later hT.bel (Nat.le_refl _)
        by_cases hlt : k < l.length
        · obtain ⟨b, off, x, rfl, hbw, hlk, c0, c1, c2, c3, c4, c5, c6⟩ := hsr.act hlt
          obtain ⟨z0, z1, z2, z3, z4, z5⟩ := HOKL.out x (List.mem_of_getElem? hlk)
          have HT := hide hT; have HW := hide hw
          clear hlk hT hw hsr
          have hA := HT.out.h3
          have hab : Below wr.heap.size wr (wr.alloc (.cells #[.string x.kind, .int .i64 x.a, .int .i64 x.b, .int .i64 x.c, .bool x.fold, .string x.prog, .string x.inp] 55)) := (Below.refl _ _).alloc (Nat.le_refl _) _
          have HTa := hide (HT.out.below hab)
          have hc : ∀ (j : Nat) v, (#[Value.string x.kind, .int .i64 x.a, .int .i64 x.b, .int .i64 x.c, .bool x.fold, .string x.prog, .string x.inp] : Array Value)[j]? = some v → (wr.alloc (.cells #[.string x.kind, .int .i64 x.a, .int .i64 x.b, .int .i64 x.c, .bool x.fold, .string x.prog, .string x.inp] 55)).cell? ⟨wr.heap.size, j, none⟩ = some v := by
            intro j v h; exact cell_new _ _ h
          have HC1 := hide (hc 1 (.int .i64 x.a) rfl)
          have HC2 := hide (hc 2 (.int .i64 x.b) rfl)
          have HC4 := hide (hc 4 (.bool x.fold) rfl)
          clear hc hab hA
          cases e1 : (x.kind.toList == [98, 101, 103, 105, 110])
          · cases e2 : (x.kind.toList == [119, 97, 105, 116])
            · cases e3 : (x.kind.toList == [102, 105, 110, 105, 115, 104])
              · have dB := HC2.out
                have T0 := HTa.out
                have T1 := T0.below ((Below.refl _ _).drew)
                have W0 := HW.out
                have hol : (loseO ps x.b ps.length).length ≤ maxLen := by have := loseO_len ps x.b ps.length; have := T0.rt.lp; unfold maxLen; omega
                have hw' := W0.lose x.b ps.length
                clear HTa HC1 HC2 HC4 HW
                go_wp2
                clear c0 c1 c2 c3 c4 c5 c6
                go_region_held3 (fun w' => w'.cell? ⟨wr.heap.size, 2, none⟩ = some (.int .i64 x.b))
                  (first
                    | go_keep
                    | exact Kb.cell kb HT.out (by assumption)
                    | (go_split_ands; exact Kb.cell kb HT.out (by assumption)))
                  (first
                    | (go_at_call 44; refine (lose_c x.b (by assumption)).mono ?_; rintro e w3 ⟨v1, rfl, kb, m1, t3⟩; obtain ⟨ao1, ca1, rfl, _⟩ := m1.form; try (have m0 := Mine.kept (by assumption) kb))
                    | (go_at_call 45; refine (lost_c x.b (by assumption) W0).mono ?_; rintro e w3 ⟨v2, rfl, kb, m2, t3⟩; obtain ⟨ao2, ca2, rfl, _⟩ := m2.form; try (have m0 := Mine.kept (by assumption) kb))
                    | (go_at_call 36; refine (SameNumbers_refl _ _ _ _ (loseO ps x.b ps.length) _ hol (Mine.sl (by assumption)) (Mine.sl (by assumption))).mono ?_; rintro e w5 ⟨rfl, b5⟩; have kb : Kb A _ _ := KeptBut.of_below b5 (Nat.le_refl _); have t5 : TT w w5 A (loseP ps x.b ps.length) ss ((loseP ps x.b ps.length).map (·.1)) (ss.map (·.1)) W := TT.below (by assumption) b5))
                all_goals
                  have AT := hide (asTasks_any t5.rt t5.rm)
                  have HT5 := hide t5
                  clear t5 T0 T1 W0 dB HT
                  go_wp2_with fail
                  refine AT.out.mono ?_
                  rintro e w6 ⟨rfl, b6⟩
                  go_wp2
                  go_roundw
                  case rel => exact ⟨k+1, by omega, by go_num, _, _, _, hw', HT5.out.below b6⟩
                  case measure => simp [intOf]; omega
              · go_wp2_with fail
                refine (finish_two x.fold x.a x.b HTa.out HW.out).mono ?_
                rintro e w3 ⟨c, f, ps', ss', W', rfl, hf, kq, hw', t', HS⟩
                have d1 := kq.cell HT.out HC1.out
                have d2 := kq.cell HT.out HC2.out
                have d4 := kq.cell HT.out HC4.out
                have HS := hide HS
                clear t' HT HTa HC1 HC2 HC4 c0 c1 c2 c3 c4 c5 c6 HW
                go_wp2_with fail
                refine HS.out.mono ?_
                rintro e w4 ⟨rfl, t4⟩
                have hcc : (c == c) = true := by simp
                have HN := hide (same_any f f w4 hf)
                rw [show decide (f = f) = true by simp] at HN
                have AT := hide (asTasks_any t4.rt t4.rm)
                have HT4 := hide t4
                clear t4 HS
                go_wp2_with fail
                refine HN.out.mono ?_
                rintro e w5 ⟨rfl, rfl⟩
                go_wp2_with fail
                refine AT.out.mono ?_
                rintro e w6 ⟨rfl, b6⟩
                go_wp2
                go_roundw
                case rel => exact ⟨k+1, by omega, by go_num, _, _, _, hw', HT4.out.below b6⟩
                case measure => simp [intOf]; omega
            · go_wp2_with fail
              refine (wait_two x.fold x.a HTa.out HW.out).mono ?_
              rintro e w3 ⟨c, f, ps', ss', rfl, hf, kq, hw', t', HS⟩
              have d1 := kq.cell HT.out HC1.out
              have d4 := kq.cell HT.out HC4.out
              have HS := hide HS
              clear t' HT HTa HC1 HC2 HC4 c0 c1 c2 c3 c4 c5 c6 HW
              go_wp2_with fail
              refine HS.out.mono ?_
              rintro e w4 ⟨rfl, t4⟩
              have HN := hide (same_any f f w4 hf)
              rw [show decide (f = f) = true by simp] at HN
              have AT := hide (asTasks_any t4.rt t4.rm)
              have HT4 := hide t4
              clear t4 HS
              go_wp2_with fail
              refine HN.out.mono ?_
              rintro e w5 ⟨rfl, rfl⟩
              go_wp2_with fail
              refine AT.out.mono ?_
              rintro e w6 ⟨rfl, b6⟩
              go_wp2
              go_roundw
              case rel => exact ⟨k+1, by omega, by go_num, _, _, _, hw', HT4.out.below b6⟩
              case measure => simp [intOf]; omega
          · go_wp2_with fail
            refine (begin_two x.fold x.a HTa.out HW.out).mono ?_
            rintro e w3 ⟨c, f, ps', ss', rfl, hf, kq, hw', t', HS⟩
            have d1 := kq.cell HT.out HC1.out
            have d4 := kq.cell HT.out HC4.out
            have HS := hide HS
            clear t' HT HTa HC1 HC2 HC4 c0 c1 c2 c3 c4 c5 c6 HW
            go_wp2_with fail
            refine HS.out.mono ?_
            rintro e w4 ⟨rfl, t4⟩
            have HN := hide (same_any f f w4 hf)
            rw [show decide (f = f) = true by simp] at HN
            have AT := hide (asTasks_any t4.rt t4.rm)
            have HT4 := hide t4
            clear t4 HS
            go_wp2_with fail
            refine HN.out.mono ?_
            rintro e w5 ⟨rfl, rfl⟩
            go_wp2_with fail
            refine AT.out.mono ?_
            rintro e w6 ⟨rfl, b6⟩
            go_wp2
            go_roundw
            case rel => exact ⟨k+1, by omega, by go_num, _, _, _, hw', HT4.out.below b6⟩
            case measure => simp [intOf]; omega
        · have AT := hide (asTasks_any hT.rt hT.rm)
          have HB := hide hT.bel
          clear hT hw hsr
          go_wp2_with fail
          refine AT.out.mono ?_
          rintro e w3 ⟨rfl, b3⟩
          go_wp2
          go_ret
          exact ⟨rfl, HB.out.trans (b3.mono HB.out.size)⟩
    · have HN := hide (same_any 1 1 w0 (by decide))
      rw [show decide ((1 : Int) = 1) = true by decide] at HN
      go_wp2_with fail
      refine (NewTasks_bad p s _ hr).mono ?_
      rintro e w1 ⟨rfl, rfl⟩
      go_wp2_with fail
      refine (RefNewTasks_bad p s _ hr).mono ?_
      rintro e w1 ⟨rfl, rfl⟩
      go_wp2_with fail
      refine HN.out.mono ?_
      rintro e w1 ⟨rfl, rfl⟩
      go_wp2
      go_ret
      exact ⟨rfl, hb0⟩
set_option maxRecDepth 100000 in
theorem TasksSays_lifted (os : Os) (started : os.Started) (H : Type) (enc : TypeId × Value → H) :
    ReturnsInHanded {} Try.checked os 6 .any (Rows.tasksSaysSpec.pre6 enc Try.prog Try.f6 Rows.tasksSaysRow.domain false) (Rows.tasksSaysSpec.post enc Try.prog Try.f6 false true false false) := by
  refine returnsInHanded_of_change (C := Try.checked) own started (by kernel_rfl) Try.func6
    (ChangeSpec.witness6 (enc := enc) (C := Try.checked) false ⟨#[], #[.int .i64 0, .int .i64 0, .slice none 0 0], []⟩ 8 (by kernel_rfl) (by kernel_rfl) (by kernel_rfl) (by kernel_rfl)) ?_
  intro W base args ds gs before hval0 hW hcnd _
  have hval : ∀ (j : Nat) t v, Try.f6.params[j]? = some t → args[j]? = some v → Value.okWide Try.prog W .any base t v := hval0
  have hW' := hW
  obtain ⟨p, q, hA0, hV, rfl, hfz, hnd⟩ := hW
  have hA : DataW.TrodAll enc Try.prog W 0 (fun _ => true) true Try.f6.params.toList args.toList ds p := hA0
  rw [Try.params6] at hA hval
  obtain ⟨v0, vs0, d0, ds0, p0, q0, hargs, rfl, rfl, h0, r0⟩ := trodAll_cons hA
  obtain ⟨v1, vs1, d1, ds1, p1, q1, rfl, rfl, rfl, h1, r1⟩ := trodAll_cons r0
  obtain ⟨v2, vs2, d2, ds2, p2, q2, rfl, rfl, rfl, h2, r2⟩ := trodAll_cons r1
  obtain ⟨rfl, rfl, rfl⟩ := trodAll_nil r2
  obtain rfl : args = #[v0, v1, v2] := by cases args; simp_all
  obtain ⟨rfl, rfl⟩ := trodVars_none hV
  have lt0 : ∀ x ∈ p0, x.block < W.heap.size := by obtain ⟨m, hm⟩ := h0; exact DataW.trod_lt m _ _ _ hm
  have k0 := hval 0 3 v0 rfl rfl
  have g0 := h0
  have lt1 : ∀ x ∈ p1, x.block < W.heap.size := by obtain ⟨m, hm⟩ := h1; exact DataW.trod_lt m _ _ _ hm
  have k1 := hval 1 3 v1 rfl rfl
  have g1 := h1
  have lt2 : ∀ x ∈ p2, x.block < W.heap.size := by obtain ⟨m, hm⟩ := h2; exact DataW.trod_lt m _ _ _ hm
  have k2 := hval 2 45 v2 rfl rfl
  have g2 := h2
  clear hA0 hval0
  obtain ⟨p, rfl, rfl, rfl, _⟩ := open_int Try.underlying3 k0 h0
  obtain ⟨s, rfl, rfl, rfl, _⟩ := open_int Try.underlying3 k1 h1
  obtain ⟨ao, ca, l, rfl, hs0, hm0, hok0⟩ := open_sl Try.underlying45 cells_act (by decide) el_act (okWide_slice Try.underlying45 k2) h2
  refine (TasksSays_walk p s ao ca l W hm0 hok0 hs0).mono fun e W' ⟨he, bel⟩ => ?_
  subst he
  exact ⟨_, rfl, _, _, _, [], _, [], hW', trodAll_mk1 (shut_bool Try.underlying4 _), (trodAll_cons_mk (Below.trod laidOut (by kernel_rfl) (of_decide_eq_true (by kernel_rfl)) g0 bel lt0) (trodAll_cons_mk (Below.trod laidOut (by kernel_rfl) (of_decide_eq_true (by kernel_rfl)) g1 bel lt1) (trodAll_cons_mk (Below.trod laidOut (by kernel_rfl) (of_decide_eq_true (by kernel_rfl)) g2 bel lt2) trodAll_mk0))), rfl, bel.frame _, fun h => by cases h⟩

theorem TasksSays_holds : Rows.TasksSaysSaid :=
  OpenClaim.holds_of_wide 6 Try.f6 rfl rfl rfl rfl rfl rfl rfl ⟨rfl, rfl, rfl, rfl, rfl⟩ rfl rfl rfl rfl rfl (by kernel_rfl) Try.func6 (by kernel_rfl)
    (of_decide_eq_true (by kernel_rfl)) (by unfold Func.isWrapper; first | (rw [if_pos (by decide +kernel)]; kernel_rfl) | (rw [if_neg (by decide +kernel)]; exact ⟨rfl, rfl⟩))
    (fun os started H enc _ => TasksSays_lifted os started H enc)
#print axioms TasksSays_holds
end Go.Proofs.Ytllibbdgnjcchaa
