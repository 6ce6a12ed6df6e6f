/- 'JournalSays' returns true for every input and leaves its arguments as they were. -/
import Derived.Test.YtkodbldfoldbjaaDoorJournalW
import Derived.Test.YtkodbldfoldbjaaDoorOpen
import Derived.Test.YtkodbldfoldbjaaDoorTie
import Derived.Test.YtkodbldfoldbjaaDoorCards
import Derived.Deep.DeepWitnessRowRef
import Derived.ProofKit
import Derived.OpenShut
import Derived.LaidMore
import Derived.Lay
import Derived.Stop.Joined
import Derived.SevenTiedAt
import Derived.ChangeMaps5
set_option linter.unusedSimpArgs false
set_option linter.unusedVariables false
namespace Go.Proofs.YtkodbldfoldbjaaDoor
open Go.RowKit Go.ChangeShapes Go.WideShapes Go.ChangeAt

theorem open_entry {H : Type} {enc0 : TypeId × Value → H} {w : World} {cs : Array Value} {d : DataW H} {ps : List MemPlace} (h : DataW.Trod enc0 Tryd.prog w 0 (fun _ => true) true 73 (.agg cs) d ps) :
    ∃ r : EnR, Value.agg cs = .agg #[.string r.1, .slice r.2.1.1 r.2.1.2.2.length r.2.1.2.1, .slice r.2.2.1 r.2.2.2.2.length r.2.2.2.1] ∧ EnArg w r := by
  obtain ⟨fuel, hf⟩ := h
  obtain ⟨r, hr, ha⟩ := el_entry fuel _ _ hf
  have h2 : cs.toList = encEn r := by simpa [Value.cells] using hr
  have h3 : cs = (encEn r).toArray := by rw [← h2]
  exact ⟨r, by rw [h3]; rfl, ha⟩
set_option maxRecDepth 100000 in
theorem JournalSays_door (os : Os) (args : Array Value) : laidMetH Tryd.prog Rows.journalSaysRow.laid ((World.laidAll Tryd.prog os Rows.journalSaysRow.laid).forCall (fun _ _ => 0) ⟨#[], args, []⟩).memory :=
  by rw [MakeChecks.laidMetH_plain _ _ _ (by kernel_rfl)]; exact laidMet_laidAll _ (by kernel_rfl) (by kernel_rfl)
theorem JournalSays_reads (os : Os) {H : Type} (enc : TypeId × Value → H) : ∃ places, DataW.whole enc Tryd.prog ((World.laidAll Tryd.prog os Rows.journalSaysRow.laid).forCall (fun _ _ => 0) ⟨#[], #[.agg #[.string ⟨#[]⟩, .slice none 0 0, .slice none 0 0], .string ⟨#[]⟩], []⟩).memory Tryd.f6.params.toList Rows.journalSaysSpec.vars false (#[.agg #[.string ⟨#[]⟩, .slice none 0 0, .slice none 0 0], .string ⟨#[]⟩] : Array Value).toList 8 = some ([.agg [.lit (.string []), .nil, .nil], .lit (.string [])], [], places) :=
  ⟨[], by kernel_rfl⟩
set_option maxRecDepth 100000 in
theorem JournalSays_contract (H : Type) (enc : TypeId × Value → H) (W : World) (base : Nat) (args : Array Value) (ds gs : List (DataW H)) (before : List MemPlace)
    (hval0 : ∀ (j : Nat) t v, Tryd.f6.params[j]? = some t → args[j]? = some v → Value.okWide Tryd.prog W .any base t v)
    (hW : DataW.Whole enc Tryd.prog Tryd.f6.params.toList Rows.journalSaysSpec.vars false W args.toList ds gs before) (hL : laidMetH Tryd.prog Rows.journalSaysRow.laid W) (hSh : W.ShapedOpen Tryd.prog) :
    Calls Tryd.prog 6 args W fun e W' => ∃ v, e = .returned v ∧ Rows.journalSaysSpec.post enc Tryd.prog Tryd.f6 false true false false W args v W' := by
  have hval : ∀ (j : Nat) t v, Tryd.f6.params[j]? = some t → args[j]? = some v → Value.okWide Tryd.prog W .any base t v := hval0
  have hW' := hW
  obtain ⟨p, q, hA0, hV, rfl, hfz, hnd⟩ := hW
  have hA : DataW.TrodAll enc Tryd.prog W 0 (fun _ => true) true Tryd.f6.params.toList args.toList ds p := hA0
  rw [Tryd.params6] at hA hval
  obtain ⟨v0, vs0, d0, ds0, p0, q0, hargs, rfl, rfl, h0, r0⟩ := trodAll_cons hA
  obtain ⟨v1, vs1, d1, ds1, p1, q1, rfl, rfl, rfl, h1, r1⟩ := trodAll_cons r0
  obtain ⟨rfl, rfl, rfl⟩ := trodAll_nil r1
  obtain rfl : args = #[v0, v1] := by cases args; simp_all
  obtain ⟨rfl, rfl⟩ := trodVars_none hV
  have lt0 : ∀ x ∈ p0, x.block < W.heap.size := by obtain ⟨m, hm⟩ := h0; exact DataW.trod_lt m _ _ _ hm
  have k0 := hval 0 73 v0 rfl rfl
  have g0 := h0
  have lt1 : ∀ x ∈ p1, x.block < W.heap.size := by obtain ⟨m, hm⟩ := h1; exact DataW.trod_lt m _ _ _ hm
  have k1 := hval 1 9 v1 rfl rfl
  have g1 := h1
  clear hA0 hval0
  obtain ⟨cs, rfl, _⟩ := okWide_struct Tryd.underlying73 k0
  obtain ⟨⟨kk, ⟨na, nc, N⟩, ⟨ta, tc, T⟩⟩, hcs, hea⟩ := open_entry h0
  obtain ⟨s, rfl, rfl, rfl, hss⟩ := Go.ChangeMaps.open_string Tryd.underlying9 k1 h1
  cases hcs
  refine (JournalSays_walk kk na nc N ta tc T s W (GW.of hSh hL (by kernel_rfl) rfl (.tail _ (.tail _ (.tail _ (.tail _ (.tail _ (.head _)))))) (.tail _ (.tail _ (.tail _ (.tail _ (.head _)))))) hea).mono fun e W' ⟨he, bel⟩ => ?_
  subst he
  exact ⟨_, rfl, _, _, _, [], _, [], hW', trodAll_mk1 (shut_bool Tryd.underlying4 _), (trodAll_cons_mk (Below.trod laidOut (by kernel_rfl) (of_decide_eq_true (by kernel_rfl)) g0 bel lt0) (trodAll_cons_mk (Below.trod laidOut (by kernel_rfl) (of_decide_eq_true (by kernel_rfl)) g1 bel lt1) trodAll_mk0)), rfl, bel.frame _, fun h => by cases h⟩
set_option maxRecDepth 100000 in
theorem JournalSays_lifted (os : Os) (started : os.Started) (H : Type) (enc : TypeId × Value → H) (F : Stop.Interp) :
    ReturnsInHanded {} Tryd.checked os 6 .any ((OpenSpec.ofChange Rows.journalSaysSpec).preRow enc Tryd.prog Tryd.f6 Rows.journalSaysRow.domain false Rows.journalSaysRow.laid) (((OpenSpec.ofChange Rows.journalSaysSpec).at F).post enc Tryd.prog Tryd.f6 false true false false) := by
  obtain ⟨places, hx⟩ := JournalSays_reads os enc
  refine returnsInHanded_of_row (C := Tryd.checked) (s := OpenSpec.ofChange Rows.journalSaysSpec) own started (by kernel_rfl) Tryd.func6
    (witness_row_atRef (enc := enc) (C := Tryd.checked) false (World.laidAll Tryd.prog os Rows.journalSaysRow.laid) #[.agg #[.string ⟨#[]⟩, .slice none 0 0, .slice none 0 0], .string ⟨#[]⟩] (World.laidAll_os _ _ _) (by kernel_rfl) (by kernel_rfl) (by kernel_rfl)
      (OpenSpec.preRow_of_cond 8 hx (by kernel_rfl) (fun k hk => by cases hk) (by kernel_rfl) (JournalSays_door os _))) ?_
  intro W base args ds gs before hval hW _ hcond _ hL hSh _
  exact JournalSays_contract H enc W base args ds gs before hval hW hL hSh

theorem JournalSays_row : Rows.journalSaysRow.holds Tryd.pinned (OpenSpec.ofChange Rows.journalSaysSpec) :=
  OpenClaim.holds_of_cond 6 Tryd.f6 rfl rfl rfl rfl rfl rfl rfl ⟨rfl, rfl, rfl, rfl, rfl⟩ rfl rfl rfl rfl rfl (by kernel_rfl) Tryd.func6 (by kernel_rfl)
    (of_decide_eq_true (by kernel_rfl)) (by unfold Func.isWrapper; first | (rw [if_pos (by decide +kernel)]; kernel_rfl) | (rw [if_neg (by decide +kernel)]; exact ⟨rfl, rfl⟩))
    (fun os started H enc _ F => by rw [OpenClaim.pre_eq_preRow]; exact JournalSays_lifted os started H enc F)
theorem JournalSays_card : Rows.JournalSaysCardSaid :=
  Claim7.holds_tied_plain_at .later [] _ _ _ _
    JournalSays_row (fun _ h => by cases h) (by kernel_rfl) (fun _ h => by cases h) journalSays_row_tie rfl ⟨rfl, rfl⟩ (by kernel_rfl) rfl
    (fun f fn hf hfn => by
      obtain rfl : f = 6 := Option.some.inj ((show Tryd.prog.funcNamed Rows.journalSaysRow.func = some 6 by kernel_rfl).symm.trans hf) |>.symm
      obtain rfl : fn = Tryd.f6 := (Option.some.inj (Tryd.func6.symm.trans hfn)).symm
      exact ⟨by kernel_rfl, fun j t ht => by
        rw [Tryd.params6] at ht
        have hm : t ∈ [73, 9] := by simpa using Array.mem_of_getElem? ht
        have hall : ([73, 9].all fun u => !Tryd.prog.wantsStandIn u) = true := by kernel_rfl
        exact (show Tryd.prog.wantsStandIn t = false by simpa using List.all_eq_true.1 hall t hm)⟩)
    (by kernel_rfl)
#print axioms JournalSays_card
end Go.Proofs.YtkodbldfoldbjaaDoor
