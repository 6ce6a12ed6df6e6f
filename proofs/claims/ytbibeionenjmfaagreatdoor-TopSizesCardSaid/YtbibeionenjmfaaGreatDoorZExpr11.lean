/- Expressions: a record of a line (expr.Of). -/
import Derived.Test.YtbibeionenjmfaaGreatDoorZJobLaw
import Derived.Handy
set_option linter.unusedSimpArgs false
set_option linter.unusedVariables false
namespace Go.Proofs.YtbibeionenjmfaaGreatDoor
open Go.RowKit
theorem Ahe (xs:List ByteArray):(xs.getD 0 ⟨#[]⟩).size+(xs.getD 1 ⟨#[]⟩).size≤(xs.map ByteArray.size).sum:=by
 match xs with
 | []=> exact Nat.le_refl 0
 | [x]=>
   show x.size+0≤_
   simp
 | x::y::r=>
   show x.size+y.size≤_
   simp only [List.map_cons,List.sum_cons]
   omega
theorem Ans {k n:Int} {s line it:ByteArray} {ws xs:List ByteArray} (hl:line.size≤1000) (hi:it.size≤1000) (hw:∀ w∈ws,w.size≤1000) (hs:k=4→s.size≤1000):
 (Anr k n s line it ws xs).size≤1000+(xs.map ByteArray.size).sum:=by
 have hg:=Ahe xs
 unfold Anr
 split
 ·omega
 ·split
  ·omega
  ·split
   ·rw [List.getD_eq_getElem?_getD]
    cases h:ws[n.toNat]? with
    | none=> exact Nat.zero_le _
    | some w=> have:=hw w (List.mem_of_getElem? h);show w.size≤_;omega
   ·split
    ·rename_i h4;have:=hs h4;omega
    ·split
     ·rw [ByteArray.size_append];omega
     ·split
      ·rw [ByteArray.size_extract];omega
      ·exact Nat.zero_le _
mutual
theorem Ze {line it:ByteArray} {ws:List ByteArray} {each:Bool} (hl:line.size≤1000) (hi:it.size≤1000) (hw:∀ w∈ws,w.size≤1000):∀ e:Ah,Kg e true each=true→(Ga e line it ws).size≤1000 * e.nodes
 | .mk k n s a,h=> by
   obtain⟨p1,p2,p3,p4,p5,p6⟩:=F6 h
   have p4':k≤6:=by simpa using p4
   have hkid:∀ t∈Dp k,t=true:=by
    intro t ht
    unfold Dp at ht
    split at ht
    ·simpa using ht
    ·split at ht
     ·simpa using ht
     ·split at ht
      ·omega
      ·simp at ht
   have h1:=Af0 hl hi hw a (Dp k) p6 hkid p5
   have h2:=Ans (k:=k) (n:=n) (s:=s) (xs:=V3 a line it ws) hl hi hw (fun h4=> by
    subst h4
    rw [Afv] at p3
    simp only [Bool.and_eq_true,decide_eq_true_eq] at p3
    omega)
   rw [Ga,Ah.nodes]
   omega
theorem Af0 {line it:ByteArray} {ws:List ByteArray} {each:Bool} (hl:line.size≤1000) (hi:it.size≤1000) (hw:∀ w∈ws,w.size≤1000):∀ (l:List Ah) (ts:List Bool),V2 l ts each=true→(∀ t∈ts,t=true)→l.length=ts.length→((V3 l line it ws).map ByteArray.size).sum≤1000 * Ah.Da l
 | [],_,_,_,_=> by simp [V3]
 | x::l, [],_,_,hlen=> by simp at hlen
 | x::l,t::ts,h,ht,hlen=> by
   rw [V2] at h
   simp only [Bool.and_eq_true] at h
   obtain rfl:=ht t List.mem_cons_self
   have h1:=Ze hl hi hw x h.1
   have h2:=Af0 hl hi hw l ts h.2 (fun t h=> ht t (List.mem_cons_of_mem _ h)) (by simpa using hlen)
   rw [V3,List.map_cons,List.sum_cons,Ah.Da]
   omega
end
theorem Xz {line it:ByteArray} {ws:List ByteArray} {each:Bool} (hl:line.size≤1000) (hi:it.size≤1000) (hw:∀ w∈ws,w.size≤1000):Hid (∀ e:Ah,Kg e true each=true→e.nodes≤1000→(Ga e line it ws).size≤1000000):=by
 intro e h hn
 have:=Ze hl hi hw e h
 have h2:1000 * e.nodes≤1000 * 1000:=Nat.mul_le_mul_left 1000 hn
 omega
end Go.Proofs.YtbibeionenjmfaaGreatDoor
namespace Go.Proofs.YtbibeionenjmfaaGreatDoor
open Go.RowKit Go.ChangeShapes Go.WideShapes Go.ChangeAt
set_option maxHeartbeats 1000000 in
theorem Aof (line:ByteArray) (w:World) (hg:GM w) (hs:line.size≤1000000):
 Calls Tryz.prog 155 #[.string line] w fun e w'=> ∃ v,e= .returned (.agg #[.string line, .string ⟨#[]⟩,v])∧Own 1 Cm 9 w' w.heap.size v (A7 line)∧Below w.heap.size w w':=by
 have hb1:Below w.heap.size w (w.alloc (.cells #[.string ⟨#[]⟩, .string ⟨#[]⟩, .slice none 0 0] 246)):=(Below.refl _ _).alloc (Nat.le_refl _) _
 have hbk:Bk (w.alloc (.cells #[.string ⟨#[]⟩, .string ⟨#[]⟩, .slice none 0 0] 246)) w.heap.size [.string ⟨#[]⟩, .string ⟨#[]⟩, .slice none 0 0]:=Bk.new rfl
 have HX:=Aa (Agz line _ (hg.later hb1 (Nat.le_refl _)) hs)
 go_enter Tryz.func155,Tryz.ntmps155
 go_wp2_with fail
 refine HX.out.mono ?_
 rintro e w3 ⟨v,rfl,o3,b3⟩
 obtain⟨⟨a3,q3,rfl⟩,_⟩:=id o3
 have hlt3:=hbk.lt
 have hbk3:=hbk.later b3
 have c0:=hbk3.get (j:=0) rfl
 have c1:=hbk3.get (j:=1) rfl
 have c2:=hbk3.get (j:=2) rfl
 have z0:=hbk3.fz 0
 have z1:=hbk3.fz 1
 have z2:=hbk3.fz 2
 have HBK:=Aa hbk3
 have HB3:=Aa (hb1.trans (b3.mono hb1.size))
 have O3:=Aa o3
 have hkk:=((hbk3.set (k:=0) (u:= .string ⟨#[]⟩) (.string line) rfl).set (k:=1) (u:= .string ⟨#[]⟩) (.string ⟨#[]⟩) rfl).set (k:=2) (u:= .slice none 0 0) (.slice a3 (A7 line).length q3) rfl
 have f0:=hkk.get (j:=0) rfl
 have f1:=hkk.get (j:=1) rfl
 have f2:=hkk.get (j:=2) rfl
 have y0:=hkk.fz 0
 have y1:=hkk.fz 1
 have y2:=hkk.fz 2
 have hoo:∀ q,(Value.slice a3 (A7 line).length q3).ownBlock=some q→q≠w.heap.size:=fun q hq e=> by
  have:=(O3.out.lt _ hq).1
  simp at this
  omega
 have HOO:=Aa hoo
 clear HX hbk hbk3 o3 b3 hb1 hkk hoo
 go_wp2
 have own3:∀ q,q=w.heap.size→(Value.slice a3 (A7 line).length q3).ownBlock≠some q:=fun q e h=> HOO.out q h e
 exact bodyPost_ret (v:= .agg #[.string line, .string ⟨#[]⟩, .slice a3 (A7 line).length q3]) (by simp [results,Tryz.results155,go_sem,f0,f1,f2,y0,y1,y2]) rfl
  ⟨_,rfl,(((O3.out.B6 (b:=w.heap.size) (by simp)).setOther (a:=⟨w.heap.size,0,none⟩) (own3 _ rfl) _).setOther (a:=⟨w.heap.size,1,none⟩) (own3 _ rfl) _).setOther (a:=⟨w.heap.size,2,none⟩) (own3 _ rfl) _,((HB3.out.setCell (Nat.le_refl _) _).setCell (Nat.le_refl _) _).setCell (Nat.le_refl _) _⟩
end Go.Proofs.YtbibeionenjmfaaGreatDoor
