/- Expressions: a record of a line (expr.Of). -/
import Derived.Handy
import Derived.Test.YtbibeionenjmfaaGreatDoorJobLaw
set_option linter.unusedSimpArgs false
set_option linter.unusedVariables false
namespace Go.Proofs.YtbibeionenjmfaaGreatDoor
open Go.RowKit Go.ChangeShapes Go.WideShapes Go.ChangeAt
set_option maxHeartbeats 1000000 in
theorem Anr (line:ByteArray) (w:World) (hg:GM w) (hs:line.size≤1000000):
 Calls Tryz.prog 155 #[.string line] w fun e w'=> ∃ v,e= .returned (.agg #[.string line, .string ⟨#[]⟩,v])∧Own 1 C8 9 w' w.heap.size v (A4 line)∧Below w.heap.size w w':=by
 have hb1:Below w.heap.size w (w.alloc (.cells #[.string ⟨#[]⟩, .string ⟨#[]⟩, .slice none 0 0] 246)):=(Below.refl _ _).alloc (Nat.le_refl _) _
 have hbk:Bk (w.alloc (.cells #[.string ⟨#[]⟩, .string ⟨#[]⟩, .slice none 0 0] 246)) w.heap.size [.string ⟨#[]⟩, .string ⟨#[]⟩, .slice none 0 0]:=Bk.new rfl
 have HX:=Aa (Ag6 line _ (hg.later hb1 (Nat.le_refl _)) hs)
 go_enter Tryz.func155,Tryz.ntmps155
 go_wp2_with fail
 refine HX.out.mono ?_
 rintro e w3 ⟨v,rfl,o3,b3⟩
 obtain⟨⟨a3,q3,rfl⟩,_⟩:=id o3
 have hlt3:=hbk.lt
 have hbk3:=hbk.later b3
 have c0:=hbk3.get (j:=0) rfl
 have c1:=hbk3.get (j:=1) rfl
 have c2:=hbk3.get (j:=2) rfl
 have z0:=hbk3.fz 0
 have z1:=hbk3.fz 1
 have z2:=hbk3.fz 2
 have HBK:=Aa hbk3
 have HB3:=Aa (hb1.trans (b3.mono hb1.size))
 have O3:=Aa o3
 have hkk:=((hbk3.set (k:=0) (u:= .string ⟨#[]⟩) (.string line) rfl).set (k:=1) (u:= .string ⟨#[]⟩) (.string ⟨#[]⟩) rfl).set (k:=2) (u:= .slice none 0 0) (.slice a3 (A4 line).length q3) rfl
 have f0:=hkk.get (j:=0) rfl
 have f1:=hkk.get (j:=1) rfl
 have f2:=hkk.get (j:=2) rfl
 have y0:=hkk.fz 0
 have y1:=hkk.fz 1
 have y2:=hkk.fz 2
 have hoo:∀ q,(Value.slice a3 (A4 line).length q3).ownBlock=some q→q≠w.heap.size:=fun q hq e=> by
  have:=(O3.out.lt _ hq).1
  simp at this
  omega
 have HOO:=Aa hoo
 clear HX hbk hbk3 o3 b3 hb1 hkk hoo
 go_wp2
 have own3:∀ q,q=w.heap.size→(Value.slice a3 (A4 line).length q3).ownBlock≠some q:=fun q e h=> HOO.out q h e
 exact bodyPost_ret (v:= .agg #[.string line, .string ⟨#[]⟩, .slice a3 (A4 line).length q3]) (by simp [results,Tryz.results155,go_sem,f0,f1,f2,y0,y1,y2]) rfl
  ⟨_,rfl,(((O3.out.Bo (b:=w.heap.size) (by simp)).setOther (a:=⟨w.heap.size,0,none⟩) (own3 _ rfl) _).setOther (a:=⟨w.heap.size,1,none⟩) (own3 _ rfl) _).setOther (a:=⟨w.heap.size,2,none⟩) (own3 _ rfl) _,((HB3.out.setCell (Nat.le_refl _) _).setCell (Nat.le_refl _) _).setCell (Nat.le_refl _) _⟩
end Go.Proofs.YtbibeionenjmfaaGreatDoor
