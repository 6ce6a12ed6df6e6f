/- order.Sort: a copy, sorted. -/
import Derived.Test.YtbibeionenjmfaaGreatDoorZSort6
import Derived.Test.YtbibeionenjmfaaGreatDoorZMerge
set_option linter.unusedSimpArgs false
set_option linter.unusedVariables false
namespace Go.Proofs.YtbibeionenjmfaaGreatDoor
open Go.RowKit
theorem Vy (ao:Option Addr) (cap:Nat) (w:World):
 Calls Tryz.prog 206 #[.slice ao 0 cap, .int .i64 0, .int .i64 0, .func (.func 159) #[] #[]] w fun e w'=> e= .returned (.tuple #[])∧w=w':=by
 go_enter Tryz.func206,Tryz.ntmps206
 go_wp2
 go_loopw [8] (fun p wr=> p= .int .i64 1∧w=wr) (fun _ _=> 0)
 case atStart=> exact⟨rfl,rfl⟩
 case round=>
  obtain⟨rfl,rfl⟩:=hrel
  go_wp2
  go_end0
  exact⟨rfl,rfl⟩
theorem Aer (ao:Option Addr) (cap:Nat) (w:World):
 Calls Tryz.prog 186 #[.slice ao 0 cap, .int .i64 0, .func (.func 159) #[] #[]] w fun e w'=> e= .returned (.tuple #[])∧w=w':=by
 go_enter Tryz.func186,Tryz.ntmps186
 go_wp2
 go_loopw [7,8] (fun p q wr=> p= .int .i64 0∧q= .int .i64 20∧w=wr) (fun _ _ _=> 0)
 case atStart=> exact⟨rfl,rfl,rfl⟩
 case round=>
  obtain⟨rfl,rfl,rfl⟩:=hrel
  go_wp2_with fail
  refine(Vy ao cap w).mono ?_
  rintro e w1 ⟨rfl,rfl⟩
  go_wp2
  go_loopw [6] (fun p wr=> p= .int .i64 20∧w=wr) (fun _ _=> 0)
  case atStart=> exact⟨rfl,rfl⟩
  case round=>
   obtain⟨rfl,rfl⟩:=hrel
   go_wp2
   go_end0
   exact⟨rfl,rfl⟩
theorem Th (l:List Pr) (v:Value) {w:World} {base:Nat} (h:Own 2 Bt 202 w base v l) (hn:l.length≤1000000000):
 Calls Tryz.prog 158 #[v, .func (.func 159) #[] #[]] w fun e w'=> e= .returned (.tuple #[])∧Ab (fun q=> base≤q) w w'∧Own 2 Bt 202 w' base v (Dz l):=by
 rcases Nat.eq_zero_or_pos l.length with h0 | h0
 ·obtain rfl:=List.length_eq_zero_iff.1 h0
  obtain⟨ao,cap,rfl⟩:=h.1
  have H:=Aa h
  clear h h0 hn
  go_enter Tryz.func158,Tryz.ntmps158
  go_wp2_with fail
  refine(Aer ao cap w).mono ?_
  rintro e w1 ⟨rfl,rfl⟩
  go_wp2
  go_end0
  exact⟨rfl,Ab.refl _ _,H.out⟩
 ·obtain⟨g,cap,rfl,hb,_,_,_⟩:=h.addr h0
  have HC:=Aa (Aeq l.length cap g l h hn)
  clear h
  go_enter Tryz.func158,Tryz.ntmps158
  go_wp2_with fail
  refine HC.out.mono ?_
  rintro e w1 ⟨rfl,k1,o1⟩
  go_wp2
  go_end0
  exact⟨rfl,k1.mono (fun q e=> by omega),o1⟩
theorem Aje (ao:Option Addr) (cap:Nat) (l:List Pr) (w:World) (hl:l.length≤1000000000) (hs:Sl 2 Bt w ao l):
 Calls Tryz.prog 120 #[.slice ao l.length cap] w fun e w'=> ∃ v,e= .returned v∧Own 2 Bt 202 w' w.heap.size v (Dz l)∧Below w.heap.size w w':=by
 go_enter Tryz.func120,Tryz.ntmps120
 go_wp2_with fail
 refine(Zm ao cap l w hl hs).mono ?_
 rintro e w1 ⟨v,rfl,o1,b1⟩
 have HC:=Aa (Th l v o1 hl)
 clear o1
 go_wp2_with fail
 refine HC.out.mono ?_
 rintro e w2 ⟨rfl,k2,o2⟩
 have b2:=b1.trans (k2.below (B:=w.heap.size) (fun q e=> e) b1.size)
 clear HC
 go_wp2
 go_ret
 exact⟨v,rfl,o2,b2⟩
end Go.Proofs.YtbibeionenjmfaaGreatDoor
