/- The floor: New. -/
import Derived.Test.YtbibeionenjmfaaGreatDoorZFlOffer
import Derived.Test.YtbibeionenjmfaaGreatDoorZBench6
set_option linter.unusedSimpArgs false
set_option linter.unusedVariables false
namespace Go.Proofs.YtbibeionenjmfaaGreatDoor
open Go.RowKit
def J0 (b1 b2 b3 b4:Nat):Nat→Ez:=fun q=> if q=b4 then .hd else if q=b3 then .runs else if b2≤q∧q < b3 then .Kq else if b1≤q∧q < b2 then .Gp else .out
theorem Aik (l:List (Int×Int)) (ws n:Nat):((F9 l ws n).Ag.map (·.map D9))=List.replicate ws (List.replicate n Om):=by
 unfold F9
 simp only [List.map_replicate]
 rfl
theorem Aho:(Tryz.prog.info? 44).map (fun i=> (i.zero,i.size,i.bytes))=some (some (.agg #[.int .i64 0, .int .i64 0]),2,16):=by kernel_rfl
theorem Am6 {w w1 w2 w3:World} {l:List (Int×Int)} {ws n bb lb cap:Nat} {rs:List Nat} {qa:Option Addr} {qc:Nat} (hg:GW w) (b1:Below w.heap.size w w1) (b2:Below w1.heap.size w1 w2) (hbt:BT w2 w1.heap.size bb lb cap n rs (List.replicate ws (List.replicate n Om)))
 (b3:Below w2.heap.size w2 w3) (hq:Own 2 Bx 44 w3 w2.heap.size (.slice qa l.length qc) l) {cs:Array Value} (hcs:cs.toList= [.slice qa l.length qc, .pointer (some ⟨bb,0,none⟩), .map (some w3.heap.size), .slice none 0 0, .string ⟨#[]⟩]):
 ∃ own G,G.fb=w3.heap.size+1∧B8 w ((w3.alloc (.map #[] 0)).alloc (.cells cs 90)) own G (F9 l ws n):=by
 have hs1:=b1.size
 have hs2:=b2.size
 have hs3:=b3.size
 have hs4:(w3.alloc (.map #[] 0)).heap.size=w3.heap.size+1:=by simp
 have hs5:((w3.alloc (.map #[] 0)).alloc (.cells cs 90)).heap.size=w3.heap.size+2:=by simp
 have b4:Below w3.heap.size w3 ((w3.alloc (.map #[] 0)).alloc (.cells cs 90)):=(ba w3 _).alloc (by simp) _
 have k4:=Ab.Ai (S:=fun _=> False) b4 (Nat.le_refl _)
 have k3:=Ab.Ai (S:=fun _=> False) b3 (Nat.le_refl _)
 have hlt:=hbt.lts
 have hin:∀ q,w1.heap.size≤q→q < w2.heap.size→J0 w1.heap.size w2.heap.size w3.heap.size (w3.heap.size+1) q= .Gp:=fun q h1 h2=> by
  unfold J0
  rw [if_neg (by omega),if_neg (by omega),if_neg (by omega),if_pos ⟨h1,h2⟩]
 refine⟨J0 w1.heap.size w2.heap.size w3.heap.size (w3.heap.size+1),⟨w3.heap.size+1,qa,qc,bb,lb,cap,rs,n,w3.heap.size,fun _=> none, .slice none 0 0, []⟩,rfl,?_⟩
 have hbk:=Bk.new (w:=w3.alloc (.map #[] 0)) (cs:=cs) (t:=90) hcs
 rw [hs4] at hbk
 exact {
  gw:=hg
  E5:=((b1.trans (b2.mono hs1)).trans (b3.mono (by omega))).trans (b4.mono (by omega))
  lo:=fun q hq=> by
   unfold J0 at hq
   rw [hs5]
   split at hq
   ·omega
   ·split at hq
    ·omega
    ·split at hq
     ·omega
     ·split at hq
      ·omega
      ·exact absurd rfl hq
  bk:=hbk
  oh:=if_pos rfl
  qs:=(hq.sl Be).kept k4 fun _ _ _=> id
  oq:=fun b o e=> by
   have e':qa=some ⟨b,o,none⟩:=e
   have:=hq.lt b (by rw [e'];rfl)
   show J0 _ _ _ _ b=_
   unfold J0
   rw [if_neg (by omega),if_neg (by omega),if_pos ⟨by omega,by omega⟩]
  bt:=by
   rw [Aik l ws n]
   exact((hbt.below b3).below b4).B6 hs1
  ob:=by
   have h1:=(hbt.ol.lt lb rfl).1
   refine⟨hin bb hbt.bt hlt.1,hin lb h1 hlt.2.1,fun r hr=> ?_⟩
   obtain⟨i,hi⟩:=List.mem_iff_getElem?.1 hr
   have h2:=hbt.lt0 hi
   exact hin r h2.2 h2.1
  rn:=((Ds.made w3 Tryz.prog 60).kept (Ab.Ai (S:=fun _=> False) (ba _ _) (Nat.le_refl _)) id)
  P8:=by
   show J0 _ _ _ _ w3.heap.size=_
   unfold J0
   rw [if_neg (by omega),if_pos rfl]
  rd:=fun x hx=> absurd rfl hx
  rr:=fun a b t h1 h2=> by
   obtain⟨row,hr,ht⟩:=K5 h1
   have hr':=List.mem_of_getElem? hr
   unfold F9 at hr'
   rw [(List.mem_replicate.1 hr').2] at ht
   rw [(List.mem_replicate.1 (List.mem_of_getElem? ht)).2] at h2
   cases h2
  jo:=Own.nil
  oj:=fun q hq=> by cases hq
  jn:=rfl
  js:=fun m g o h1 h2=> by simp at h1}
section
variable {w:World}
set_option maxRecDepth 100000 in
theorem Zr (qa:Option Addr) (qc:Nat) (l:List (Int×Int)) (ws n:Int) (w:World) (hl:l.length≤1000) (hs:Sl 2 Bx w qa l) (hq:Er l≠0∨¬ (1≤ws∧ws≤4∧1≤n∧n≤3)):
 Calls Tryz.prog 20 #[.slice qa l.length qc, .int .i64 ws, .int .i64 n] w fun e w'=> (∃ er,er≠0∧e= .returned (.tuple #[.pointer none,Du er]))∧Below w.heap.size w w':=by
 have HC:=Aa (Tf qa qc l w hl hs)
 clear hs
 by_cases h0:Er l=0
 ·have hb:¬ (1≤ws∧ws≤4∧1≤n∧n≤3):=hq.resolve_left (fun e=> e h0)
  rw [h0,A3] at HC
  have HN:=Aa fun w'=> Yf ws n w' hb
  rw [Ar (by decide)] at HN
  clear hb hq h0 hl
  go_enter Tryz.func20,Tryz.ntmps20
  go_wp2_with fail
  refine HC.out.mono ?_
  rintro e w1 ⟨rfl,b1⟩
  have HB:=Aa b1
  clear b1 HC
  go_wp2_with fail
  refine(HN.out _).mono ?_
  rintro e w2 ⟨rfl,rfl⟩
  clear HN
  go_wp2
  go_ret2
  exact⟨⟨1,by decide,rfl⟩,HB.out⟩
 ·have HE:=Aa h0
  rw [Ar h0] at HC
  clear hq h0 hl
  generalize Er l=er at *
  go_enter Tryz.func20,Tryz.ntmps20
  go_wp2_with fail
  refine HC.out.mono ?_
  rintro e w1 ⟨rfl,b1⟩
  have HB:=Aa b1
  clear b1 HC
  go_wp2
  go_ret2
  exact⟨⟨er,HE.out,by rw [Ar HE.out];rfl⟩,HB.out⟩
set_option maxRecDepth 100000 in
set_option maxHeartbeats 1000000 in
theorem Zq (qa:Option Addr) (qc:Nat) (l:List (Int×Int)) (ws n:Nat) (w:World) (hg:GW w) (hs:Sl 2 Bx w qa l) (hnil:qa=none→qc=0) (hq:Er l=0) (hws:1≤ws∧ws≤4) (hn:1≤n∧n≤3):
 Calls Tryz.prog 20 #[.slice qa l.length qc, .int .i64 ws, .int .i64 n] w fun e w'=> (∃ fb,e= .returned (.tuple #[.pointer (some ⟨fb,0,none⟩), .nilIface])∧∃ own G,G.fb=fb∧B8 w w' own G (F9 l ws n))∧Below w.heap.size w w':=by
 obtain⟨i0,hi0,hz0,hz1,hz2⟩:=info_parts Aho
 have hl:1≤l.length∧l.length≤4:=by
  unfold Er at hq
  split at hq
  ·cases hq
  ·omega
 have HC:=Aa (Tf qa qc l w (by omega) hs)
 rw [hq,A3] at HC
 have HN:=Aa fun w'=> Zx ws n w' hws.1 hws.2 hn.1 hn.2
 have HS:=Aa hs
 have HG:=Aa hg
 have HNI:=Aa hnil
 have HLN:Hid (0+l.length≤1000000000):=by show _≤_;omega
 clear hs hg hnil hq hws hn hl
 go_enter Tryz.func20,Tryz.ntmps20
 go_wp2_with fail
 refine HC.out.mono ?_
 rintro e w1 ⟨rfl,b1⟩
 have HB1:=Aa b1
 clear b1 HC
 go_wp2_with fail
 refine(HN.out _).mono ?_
 rintro e w2 ⟨bb,lb,cap,rs,rfl,b2,hrs,hbt⟩
 have HB2:=Aa b2
 have HBT:=Aa hbt
 have HSL:=Aa ((HS.out.later HB1.out (Nat.le_refl _)).later b2 (Nat.le_refl _))
 clear b2 hbt HN HS hrs
 go_wp2_with (at_builtin;refine J9 Be _ _ 45 i0 _ rfl rfl Tryz.underlying45 hi0 hz0 hz1 hz2 rfl (by decide) (by decide) (Own.nil (base:=w2.heap.size)) (Below.refl w2.heap.size w2) (Nat.le_refl _) l HLN.out rfl qa qc _ rfl rfl HNI.out HSL.out (Mt Rm) ?_)
 intro v3 w3 o3 b3 _ _
 obtain⟨va,vc,rfl⟩:=id o3.1
 have HB3:=Aa b3
 have HO3:=Aa o3
 have HFIN:=Aa (Am6 (cs:= #[.slice va l.length vc, .pointer (some ⟨bb,0,none⟩), .map (some w3.heap.size), .slice none 0 0, .string ⟨#[]⟩]) HG.out HB1.out HB2.out HBT.out HB3.out HO3.out rfl)
 have hmm:(Instr.makeMap 87 none).run Tryz.prog w3= .ok (.map (some w3.heap.size)) (w3.alloc (.map #[] 0)):=run_makeMap 87 w3
 clear b3 o3 HBT HO3 HSL HNI
 go_wp2
 go_ret2
 refine⟨⟨_,rfl,HFIN.out⟩,?_⟩
 have h1:=HB1.out.size
 have h2:=HB2.out.size
 have h3:=HB3.out.size
 exact(((HB1.out.trans (HB2.out.mono h1)).trans (HB3.out.mono (by omega))).alloc (by omega) _).alloc (by simp;omega) _
end
end Go.Proofs.YtbibeionenjmfaaGreatDoor
