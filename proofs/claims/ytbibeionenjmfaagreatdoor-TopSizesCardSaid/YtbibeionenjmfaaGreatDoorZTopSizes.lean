/- 'TopSizes' returns true for every input and leaves its arguments as they were. -/
import Derived.Test.YtbibeionenjmfaaGreatDoorTie
import Derived.Test.YtbibeionenjmfaaGreatDoorCards
import Derived.Deep.DeepWitnessRowRef
import Derived.LaidMore
import Derived.Lay
import Derived.Stop.Joined
import Derived.SevenTiedAt
import Derived.ChangeMaps5
import Derived.Test.YtbibeionenjmfaaGreatDoorZTSizesW
set_option linter.unusedSimpArgs false
set_option linter.unusedVariables false
namespace Go.Proofs.YtbibeionenjmfaaGreatDoor
open Go.RowKit Go.ChangeShapes Go.WideShapes Go.ChangeAt
set_option maxRecDepth 100000 in
theorem Vo (os:Os) (args:Array Value):laidMetH Tryz.prog Rows.topSizesRow.laid ((World.laidAll Tryz.prog os Rows.topSizesRow.laid).forCall (fun _ _=> 0) ⟨#[],args, []⟩).memory:=
 by rw [MakeChecks.laidMetH_plain _ _ _ (by kernel_rfl)];exact laidMet_laidAll _ (by kernel_rfl) (by kernel_rfl)
theorem Tj (os:Os) {H:Type} (enc:TypeId×Value→H):∃ places,DataW.whole enc Tryz.prog ((World.laidAll Tryz.prog os Rows.topSizesRow.laid).forCall (fun _ _=> 0) ⟨#[], #[.string ⟨#[]⟩, .string ⟨#[]⟩, .int .i64 0, .int .i64 0, .int .i64 0, .int .i64 0], []⟩).memory Tryz.f4.params.toList Rows.topSizesSpec.vars false (#[.string ⟨#[]⟩, .string ⟨#[]⟩, .int .i64 0, .int .i64 0, .int .i64 0, .int .i64 0]:Array Value).toList 8=some ([.lit (.string []), .lit (.string []), .lit (.int .i64 0), .lit (.int .i64 0), .lit (.int .i64 0), .lit (.int .i64 0)], [],places):=
 ⟨[],by kernel_rfl⟩
set_option maxRecDepth 100000 in
theorem O8 (H:Type) (enc:TypeId×Value→H) (W:World) (base:Nat) (args:Array Value) (ds gs:List (DataW H)) (before:List MemPlace)
 (hval0:∀ (j:Nat) t v,Tryz.f4.params[j]?=some t→args[j]?=some v→Value.okWide Tryz.prog W .any base t v)
 (hW:DataW.Whole enc Tryz.prog Tryz.f4.params.toList Rows.topSizesSpec.vars false W args.toList ds gs before) (hL:laidMetH Tryz.prog Rows.topSizesRow.laid W) (hSh:W.ShapedOpen Tryz.prog):
 Calls Tryz.prog 4 args W fun e W'=> ∃ v,e= .returned v∧Rows.topSizesSpec.post enc Tryz.prog Tryz.f4 false true false false W args v W':=by
 have hval:∀ (j:Nat) t v,Tryz.f4.params[j]?=some t→args[j]?=some v→Value.okWide Tryz.prog W .any base t v:=hval0
 have hW':=hW
 obtain⟨p,q,hA0,hV,rfl,hfz,hnd⟩:=hW
 have hA:DataW.TrodAll enc Tryz.prog W 0 (fun _=> true) true Tryz.f4.params.toList args.toList ds p:=hA0
 rw [Tryz.params4] at hA hval
 obtain⟨v0,vs0,d0,ds0,p0,q0,hargs,rfl,rfl,h0,r0⟩:=trodAll_cons hA
 obtain⟨v1,vs1,d1,ds1,p1,q1,rfl,rfl,rfl,h1,r1⟩:=trodAll_cons r0
 obtain⟨v2,vs2,d2,ds2,p2,q2,rfl,rfl,rfl,h2,r2⟩:=trodAll_cons r1
 obtain⟨v3,vs3,d3,ds3,p3,q3,rfl,rfl,rfl,h3,r3⟩:=trodAll_cons r2
 obtain⟨v4,vs4,d4,ds4,p4,q4,rfl,rfl,rfl,h4,r4⟩:=trodAll_cons r3
 obtain⟨v5,vs5,d5,ds5,p5,q5,rfl,rfl,rfl,h5,r5⟩:=trodAll_cons r4
 obtain⟨rfl,rfl,rfl⟩:=trodAll_nil r5
 obtain rfl:args= #[v0,v1,v2,v3,v4,v5]:=by cases args;simp_all
 obtain⟨rfl,rfl⟩:=trodVars_none hV
 have lt0:∀ x∈p0,x.block < W.heap.size:=by obtain⟨m,hm⟩:=h0;exact DataW.trod_lt m _ _ _ hm
 have k0:=hval 0 9 v0 rfl rfl
 have g0:=h0
 have lt1:∀ x∈p1,x.block < W.heap.size:=by obtain⟨m,hm⟩:=h1;exact DataW.trod_lt m _ _ _ hm
 have k1:=hval 1 9 v1 rfl rfl
 have g1:=h1
 have lt2:∀ x∈p2,x.block < W.heap.size:=by obtain⟨m,hm⟩:=h2;exact DataW.trod_lt m _ _ _ hm
 have k2:=hval 2 3 v2 rfl rfl
 have g2:=h2
 have lt3:∀ x∈p3,x.block < W.heap.size:=by obtain⟨m,hm⟩:=h3;exact DataW.trod_lt m _ _ _ hm
 have k3:=hval 3 3 v3 rfl rfl
 have g3:=h3
 have lt4:∀ x∈p4,x.block < W.heap.size:=by obtain⟨m,hm⟩:=h4;exact DataW.trod_lt m _ _ _ hm
 have k4:=hval 4 3 v4 rfl rfl
 have g4:=h4
 have lt5:∀ x∈p5,x.block < W.heap.size:=by obtain⟨m,hm⟩:=h5;exact DataW.trod_lt m _ _ _ hm
 have k5:=hval 5 3 v5 rfl rfl
 have g5:=h5
 clear hA0 hval0
 obtain⟨s,rfl,rfl,rfl,hss⟩:=Go.ChangeMaps.open_string Tryz.underlying9 k0 h0
 obtain⟨t,rfl,rfl,rfl,htt⟩:=Go.ChangeMaps.open_string Tryz.underlying9 k1 h1
 obtain⟨a,rfl,rfl,rfl,ha⟩:=open_int Tryz.underlying3 k2 h2
 obtain⟨b,rfl,rfl,rfl,hb⟩:=open_int Tryz.underlying3 k3 h3
 obtain⟨ws,rfl,rfl,rfl,_⟩:=open_int Tryz.underlying3 k4 h4
 obtain⟨sl,rfl,rfl,rfl,_⟩:=open_int Tryz.underlying3 k5 h5
 refine(Vp s.data.toList t.data.toList a b ws sl W (GW.of hSh hL (by kernel_rfl) rfl (by first | exact .tail _ (.tail _ (.tail _ (.tail _ (.head _)))) | exact .tail _ (.tail _ (.tail _ (.tail _ (.tail _ (.head _))))) | exact .tail _ (.tail _ (.tail _ (.head _))) | exact .tail _ (.tail _ (.head _)) | exact .tail _ (.head _) | exact .head _) (by first | exact .tail _ (.tail _ (.tail _ (.tail _ (.head _)))) | exact .tail _ (.tail _ (.tail _ (.tail _ (.tail _ (.head _))))) | exact .tail _ (.tail _ (.tail _ (.head _))) | exact .tail _ (.tail _ (.head _)) | exact .tail _ (.head _) | exact .head _)) (by simpa using hss) (by simpa using htt) (by have:=bounds_i64 ha;omega) (by have:=bounds_i64 hb;omega)).mono fun e W' ⟨he,E5⟩=> ?_
 subst he
 exact⟨_,rfl,_,_,_, [],_, [],hW',trodAll_mk1 (shut_bool Tryz.underlying4 _),(trodAll_cons_mk (Below.trod laidOut (by kernel_rfl) (of_decide_eq_true (by kernel_rfl)) g0 E5 lt0) (trodAll_cons_mk (Below.trod laidOut (by kernel_rfl) (of_decide_eq_true (by kernel_rfl)) g1 E5 lt1) (trodAll_cons_mk (Below.trod laidOut (by kernel_rfl) (of_decide_eq_true (by kernel_rfl)) g2 E5 lt2) (trodAll_cons_mk (Below.trod laidOut (by kernel_rfl) (of_decide_eq_true (by kernel_rfl)) g3 E5 lt3) (trodAll_cons_mk (Below.trod laidOut (by kernel_rfl) (of_decide_eq_true (by kernel_rfl)) g4 E5 lt4) (trodAll_cons_mk (Below.trod laidOut (by kernel_rfl) (of_decide_eq_true (by kernel_rfl)) g5 E5 lt5) trodAll_mk0)))))),rfl,E5.frame _,fun h=> by cases h⟩
set_option maxRecDepth 100000 in
theorem St (os:Os) (started:os.Started) (H:Type) (enc:TypeId×Value→H) (F:Stop.Interp):
 ReturnsInHanded {} Tryz.checked os 4 .any ((OpenSpec.ofChange Rows.topSizesSpec).preRow enc Tryz.prog Tryz.f4 Rows.topSizesRow.domain false Rows.topSizesRow.laid) (((OpenSpec.ofChange Rows.topSizesSpec).at F).post enc Tryz.prog Tryz.f4 false true false false):=by
 obtain⟨places,hx⟩:=Tj os enc
 refine returnsInHanded_of_row (C:=Tryz.checked) (s:=OpenSpec.ofChange Rows.topSizesSpec) own started (by kernel_rfl) Tryz.func4
  (witness_row_atRef (enc:=enc) (C:=Tryz.checked) false (World.laidAll Tryz.prog os Rows.topSizesRow.laid) #[.string ⟨#[]⟩, .string ⟨#[]⟩, .int .i64 0, .int .i64 0, .int .i64 0, .int .i64 0] (World.laidAll_os _ _ _) (by kernel_rfl) (by kernel_rfl) (by kernel_rfl)
   (OpenSpec.preRow_of_cond 8 hx (by kernel_rfl) (fun k hk=> by cases hk) (by kernel_rfl) (Vo os _))) ?_
 intro W base args ds gs before hval hW _ hcond _ hL hSh _
 exact O8 H enc W base args ds gs before hval hW hL hSh
theorem Ti:Tryz.pinned.checked.prog.funcNamed Rows.topSizesRow.func=some 4:=by kernel_rfl
theorem Ss:joinedFacts Tryz.pinned.checked.prog 4 Tryz.f4 (OpenSpec.ofChange Rows.topSizesSpec).bare Rows.topSizesRow=true:=by kernel_rfl
theorem Yg:Rows.topSizesRow.holds Tryz.pinned (OpenSpec.ofChange Rows.topSizesSpec):=
 OpenClaim.holds_of_cond 4 Tryz.f4 rfl rfl rfl rfl rfl rfl rfl ⟨rfl,rfl,rfl,rfl,rfl⟩ rfl rfl rfl rfl rfl Ti Tryz.func4 Ss
  (of_decide_eq_true (by kernel_rfl)) (by unfold Func.isWrapper;first | (rw [if_pos (by decide+kernel)];kernel_rfl) | (rw [if_neg (by decide+kernel)];exact⟨rfl,rfl⟩))
  (fun os started H enc _ F=> by rw [OpenClaim.pre_eq_preRow];exact St os started H enc F)
theorem TopSizes_card:Rows.TopSizesCardSaid:=
 Claim7.holds_tied_plain_at .later [] _ _ _ _
  Yg (fun _ h=> by cases h) (by kernel_rfl) (fun _ h=> by cases h) topSizes_row_tie rfl ⟨rfl,rfl⟩ (by kernel_rfl) rfl
  (fun f fn hf hfn=> by
   obtain rfl:f=4:=Option.some.inj ((show Tryz.prog.funcNamed Rows.topSizesRow.func=some 4 by kernel_rfl).symm.trans hf) |>.symm
   obtain rfl:fn=Tryz.f4:=(Option.some.inj (Tryz.func4.symm.trans hfn)).symm
   exact⟨by kernel_rfl,fun j t ht=> by
    rw [Tryz.params4] at ht
    have hm:t∈ [9,9,3,3,3,3]:=by simpa using Array.mem_of_getElem? ht
    have hall:([9,9,3,3,3,3].all fun u=> !Tryz.prog.wantsStandIn u)=true:=by kernel_rfl
    exact(show Tryz.prog.wantsStandIn t=false by simpa using List.all_eq_true.1 hall t hm)⟩)
  (by kernel_rfl)
#print axioms TopSizes_card
end Go.Proofs.YtbibeionenjmfaaGreatDoor
