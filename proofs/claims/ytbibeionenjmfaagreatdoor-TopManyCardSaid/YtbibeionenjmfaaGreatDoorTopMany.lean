/- 'TopMany' returns true for every input and leaves its arguments as they were. -/
import Derived.Test.YtbibeionenjmfaaGreatDoorTie
import Derived.Test.YtbibeionenjmfaaGreatDoorCards
import Derived.Deep.DeepWitnessRowRef
import Derived.LaidMore
import Derived.Lay
import Derived.Stop.Joined
import Derived.SevenTiedAt
import Derived.ChangeMaps5
import Derived.Test.YtbibeionenjmfaaGreatDoorTManyW
set_option linter.unusedSimpArgs false
set_option linter.unusedVariables false
namespace Go.Proofs.YtbibeionenjmfaaGreatDoor
open Go.RowKit Go.ChangeShapes Go.WideShapes Go.ChangeAt
set_option maxRecDepth 100000 in
theorem Yl (os:Os) (args:Array Value):laidMetH Tryz.prog Rows.topManyRow.laid ((World.laidAll Tryz.prog os Rows.topManyRow.laid).forCall (fun _ _=> 0) ⟨#[],args, []⟩).memory:=
 by rw [MakeChecks.laidMetH_plain _ _ _ (by kernel_rfl)];exact laidMet_laidAll _ (by kernel_rfl) (by kernel_rfl)
theorem Vl (os:Os) {H:Type} (enc:TypeId×Value→H):∃ places,DataW.whole enc Tryz.prog ((World.laidAll Tryz.prog os Rows.topManyRow.laid).forCall (fun _ _=> 0) ⟨#[], #[.string ⟨#[]⟩, .string ⟨#[]⟩, .int .i64 0], []⟩).memory Tryz.f3.params.toList Rows.topManySpec.vars false (#[.string ⟨#[]⟩, .string ⟨#[]⟩, .int .i64 0]:Array Value).toList 8=some ([.lit (.string []), .lit (.string []), .lit (.int .i64 0)], [],places):=
 ⟨[],by kernel_rfl⟩
set_option maxRecDepth 100000 in
theorem Q3 (H:Type) (enc:TypeId×Value→H) (W:World) (base:Nat) (args:Array Value) (ds gs:List (DataW H)) (before:List MemPlace)
 (hval0:∀ (j:Nat) t v,Tryz.f3.params[j]?=some t→args[j]?=some v→Value.okWide Tryz.prog W .any base t v)
 (hW:DataW.Whole enc Tryz.prog Tryz.f3.params.toList Rows.topManySpec.vars false W args.toList ds gs before) (hL:laidMetH Tryz.prog Rows.topManyRow.laid W) (hSh:W.ShapedOpen Tryz.prog):
 Calls Tryz.prog 3 args W fun e W'=> ∃ v,e= .returned v∧Rows.topManySpec.post enc Tryz.prog Tryz.f3 false true false false W args v W':=by
 have hval:∀ (j:Nat) t v,Tryz.f3.params[j]?=some t→args[j]?=some v→Value.okWide Tryz.prog W .any base t v:=hval0
 have hW':=hW
 obtain⟨p,q,hA0,hV,rfl,hfz,hnd⟩:=hW
 have hA:DataW.TrodAll enc Tryz.prog W 0 (fun _=> true) true Tryz.f3.params.toList args.toList ds p:=hA0
 rw [Tryz.params3] at hA hval
 obtain⟨v0,vs0,d0,ds0,p0,q0,hargs,rfl,rfl,h0,r0⟩:=trodAll_cons hA
 obtain⟨v1,vs1,d1,ds1,p1,q1,rfl,rfl,rfl,h1,r1⟩:=trodAll_cons r0
 obtain⟨v2,vs2,d2,ds2,p2,q2,rfl,rfl,rfl,h2,r2⟩:=trodAll_cons r1
 obtain⟨rfl,rfl,rfl⟩:=trodAll_nil r2
 obtain rfl:args= #[v0,v1,v2]:=by cases args;simp_all
 obtain⟨rfl,rfl⟩:=trodVars_none hV
 have lt0:∀ x∈p0,x.block < W.heap.size:=by obtain⟨m,hm⟩:=h0;exact DataW.trod_lt m _ _ _ hm
 have k0:=hval 0 9 v0 rfl rfl
 have g0:=h0
 have lt1:∀ x∈p1,x.block < W.heap.size:=by obtain⟨m,hm⟩:=h1;exact DataW.trod_lt m _ _ _ hm
 have k1:=hval 1 9 v1 rfl rfl
 have g1:=h1
 have lt2:∀ x∈p2,x.block < W.heap.size:=by obtain⟨m,hm⟩:=h2;exact DataW.trod_lt m _ _ _ hm
 have k2:=hval 2 3 v2 rfl rfl
 have g2:=h2
 clear hA0 hval0
 obtain⟨s,rfl,rfl,rfl,hss⟩:=Go.ChangeMaps.open_string Tryz.underlying9 k0 h0
 obtain⟨t,rfl,rfl,rfl,htt⟩:=Go.ChangeMaps.open_string Tryz.underlying9 k1 h1
 obtain⟨n,rfl,rfl,rfl,hn⟩:=open_int Tryz.underlying3 k2 h2
 refine(Ye s.data.toList t.data.toList n W (GW.of hSh hL (by kernel_rfl) rfl (by first | exact .tail _ (.tail _ (.tail _ (.tail _ (.head _)))) | exact .tail _ (.tail _ (.tail _ (.tail _ (.tail _ (.head _))))) | exact .tail _ (.tail _ (.tail _ (.head _))) | exact .tail _ (.tail _ (.head _)) | exact .tail _ (.head _) | exact .head _) (by first | exact .tail _ (.tail _ (.tail _ (.tail _ (.head _)))) | exact .tail _ (.tail _ (.tail _ (.tail _ (.tail _ (.head _))))) | exact .tail _ (.tail _ (.tail _ (.head _))) | exact .tail _ (.tail _ (.head _)) | exact .tail _ (.head _) | exact .head _)) (by simpa using hss) (by simpa using htt) (by have:=bounds_i64 hn;omega)).mono fun e W' ⟨he,Gj⟩=> ?_
 subst he
 exact⟨_,rfl,_,_,_, [],_, [],hW',trodAll_mk1 (shut_bool Tryz.underlying4 _),(trodAll_cons_mk (Below.trod laidOut (by kernel_rfl) (of_decide_eq_true (by kernel_rfl)) g0 Gj lt0) (trodAll_cons_mk (Below.trod laidOut (by kernel_rfl) (of_decide_eq_true (by kernel_rfl)) g1 Gj lt1) (trodAll_cons_mk (Below.trod laidOut (by kernel_rfl) (of_decide_eq_true (by kernel_rfl)) g2 Gj lt2) trodAll_mk0))),rfl,Gj.frame _,fun h=> by cases h⟩
set_option maxRecDepth 100000 in
theorem T2 (os:Os) (started:os.Started) (H:Type) (enc:TypeId×Value→H) (F:Stop.Interp):
 ReturnsInHanded {} Tryz.checked os 3 .any ((OpenSpec.ofChange Rows.topManySpec).preRow enc Tryz.prog Tryz.f3 Rows.topManyRow.domain false Rows.topManyRow.laid) (((OpenSpec.ofChange Rows.topManySpec).at F).post enc Tryz.prog Tryz.f3 false true false false):=by
 obtain⟨places,hx⟩:=Vl os enc
 refine returnsInHanded_of_row (C:=Tryz.checked) (s:=OpenSpec.ofChange Rows.topManySpec) own started (by kernel_rfl) Tryz.func3
  (witness_row_atRef (enc:=enc) (C:=Tryz.checked) false (World.laidAll Tryz.prog os Rows.topManyRow.laid) #[.string ⟨#[]⟩, .string ⟨#[]⟩, .int .i64 0] (World.laidAll_os _ _ _) (by kernel_rfl) (by kernel_rfl) (by kernel_rfl)
   (OpenSpec.preRow_of_cond 8 hx (by kernel_rfl) (fun k hk=> by cases hk) (by kernel_rfl) (Yl os _))) ?_
 intro W base args ds gs before hval hW _ hcond _ hL hSh _
 exact Q3 H enc W base args ds gs before hval hW hL hSh
theorem Vj:Tryz.pinned.checked.prog.funcNamed Rows.topManyRow.func=some 3:=by kernel_rfl
theorem Uk:joinedFacts Tryz.pinned.checked.prog 3 Tryz.f3 (OpenSpec.ofChange Rows.topManySpec).bare Rows.topManyRow=true:=by kernel_rfl
theorem Aai:Rows.topManyRow.holds Tryz.pinned (OpenSpec.ofChange Rows.topManySpec):=
 OpenClaim.holds_of_cond 3 Tryz.f3 rfl rfl rfl rfl rfl rfl rfl ⟨rfl,rfl,rfl,rfl,rfl⟩ rfl rfl rfl rfl rfl Vj Tryz.func3 Uk
  (of_decide_eq_true (by kernel_rfl)) (by unfold Func.isWrapper;first | (rw [if_pos (by decide+kernel)];kernel_rfl) | (rw [if_neg (by decide+kernel)];exact⟨rfl,rfl⟩))
  (fun os started H enc _ F=> by rw [OpenClaim.pre_eq_preRow];exact T2 os started H enc F)
theorem TopMany_card:Rows.TopManyCardSaid:=
 Claim7.holds_tied_plain_at .later [] _ _ _ _
  Aai (fun _ h=> by cases h) (by kernel_rfl) (fun _ h=> by cases h) topMany_row_tie rfl ⟨rfl,rfl⟩ (by kernel_rfl) rfl
  (fun f fn hf hfn=> by
   obtain rfl:f=3:=Option.some.inj ((show Tryz.prog.funcNamed Rows.topManyRow.func=some 3 by kernel_rfl).symm.trans hf) |>.symm
   obtain rfl:fn=Tryz.f3:=(Option.some.inj (Tryz.func3.symm.trans hfn)).symm
   exact⟨by kernel_rfl,fun j t ht=> by
    rw [Tryz.params3] at ht
    have hm:t∈ [9,9,3]:=by simpa using Array.mem_of_getElem? ht
    have hall:([9,9,3].all fun u=> !Tryz.prog.wantsStandIn u)=true:=by kernel_rfl
    exact(show Tryz.prog.wantsStandIn t=false by simpa using List.all_eq_true.1 hall t hm)⟩)
  (by kernel_rfl)
#print axioms TopMany_card
end Go.Proofs.YtbibeionenjmfaaGreatDoor
