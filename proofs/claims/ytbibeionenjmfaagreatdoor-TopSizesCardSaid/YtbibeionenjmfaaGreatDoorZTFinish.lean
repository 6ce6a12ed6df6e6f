/- The floor's laws: finish: rounds of work until nothing is offered. -/
import Derived.Test.YtbibeionenjmfaaGreatDoorZFlFin2
set_option linter.unusedSimpArgs false
set_option linter.unusedVariables false
namespace Go.Proofs.YtbibeionenjmfaaGreatDoor
open Go.RowKit
theorem Vz {α:Type} (l:List α) (i:Nat) (f g:α→α):(l.modify i f).modify i g=l.modify i (g ∘ f):=by
 apply List.ext_getElem?
 intro j
 rw [get_modify,get_modify,get_modify]
 by_cases hj:i=j
 ·rw [if_pos hj,if_pos hj,if_pos hj]
  cases l[j]? <;> rfl
 ·rw [if_neg hj,if_neg hj,if_neg hj]
theorem Sx (F:Ad) (a b:Nat) (x y:Gb):Au (Au F a b x) a b y=Au F a b y:=by
 unfold Au
 dsimp only
 rw [Vz]
 congr 1
 refine congrArg (fun f=> F.Ag.modify a f) (funext fun row=> ?_)
 simp [List.set_set]
theorem Ae3 {F:Ad} {a b:Nat} {t:Gb} {many:Int} (ht:An F a b=some t) (hoff:t.on=false):Br F a b many=F:=by
 unfold Br
 unfold An at ht
 rw [ht]
 dsimp only
 rw [if_pos hoff]
theorem Yb {F:Ad} {a b:Nat} {t:Gb} {p:As} {many:Int} (ht:An F a b=some t) (hon:t.on=true) (hp:ofM F t.t=some p):
 Br F a b many=if Fu t.at_ many p < p.many then Au F a b {t with at_:=Fu t.at_ many p} else Vw (Au F a b {t with at_:=Fu t.at_ many p}) a b t.t (decide (p.st=2)):=by
 unfold Br
 unfold An at ht
 rw [ht]
 dsimp only
 rw [if_neg (by rw [hon];simp),hp]
 dsimp only
 obtain⟨nn,hnn⟩:∃ nn,nn=Fu t.at_ many p:=⟨_,rfl⟩
 rw [show(if 0 < many then t.at_+min many.toNat (p.many - t.at_) else t.at_)=nn from hnn.symm,←hnn]
 by_cases hn:nn < p.many
 ·rw [if_pos hn,if_pos hn]
 ·rw [if_neg hn,if_neg hn]
  unfold Vw
  rw [Sx]
  by_cases hst:p.st=2
  ·rw [decide_eq_true hst,if_pos rfl,if_pos hst]
  ·rw [decide_eq_false hst,if_neg hst,if_neg (show ¬ (false=true) by simp)]
   rfl
end Go.Proofs.YtbibeionenjmfaaGreatDoor
namespace Go.Proofs.YtbibeionenjmfaaGreatDoor
open Go.RowKit
section
variable {w0 w w' W:World} {own:Nat→Ez} {G:Bg} {F:Ad} {n:Nat} {g:Ec} {o:Ba}
end
section
variable {w0 w w' wr wc w2:World} {own own':Nat→Ez} {G G':Bg} {F F1 F2:Ad}
structure Cx (w0 w:World) (own:Nat→Ez) (G:Bg) (F':Ad) (wr:World) (own':Nat→Ez) (G':Bg):Prop where
 fl:B8 w0 wr own' G' F'
 fb:G'.fb=G.fb
 ag:∀ q,q < w.heap.size→own' q=own q
 kb:Ab (fun q=> own q≠ .out) w wr
theorem Cx.start (h:B8 w0 w own G F) (hb:Below w.heap.size w w'):Cx w0 w own G F w' own G:=
 ⟨h.later hb,rfl,fun _ _=> rfl,Ab.Ai hb (Nat.le_refl _)⟩
theorem Cx.later (h:Cx w0 w own G F1 wr own' G') (hb:Below wr.heap.size wr w'):Cx w0 w own G F1 w' own' G':=
 ⟨h.fl.later hb,h.fb,h.ag,h.kb.trans (Ab.Ai hb (Nat.le_refl _))⟩
theorem Cx.ft (h:Cx w0 w own G F1 wr own' G'):Bu w0 w own G F1 wr:=⟨⟨own',G',h.fl,h.fb,h.ag⟩,h.kb⟩
theorem Cx.next (h:Cx w0 w own G F1 wr own' G') {own2:Nat→Ez} {G2:Bg} (hf:B8 w0 w2 own2 G2 F2) (hfb:G2.fb=G'.fb) (ha:∀ q,q < wr.heap.size→own2 q=own' q) (k:Ab (fun q=> own' q≠ .out) wr w2):Cx w0 w own G F2 w2 own2 G2:=
 ⟨hf,hfb.trans h.fb,fun q hq=> (ha q (Nat.lt_of_lt_of_le hq h.kb.size)).trans (h.ag q hq),h.kb.more k fun q hq=> by
  by_cases hl:q < w.heap.size
  ·rw [h.ag q hl] at hq;exact .inl hq
  ·exact .inr (by omega)⟩
theorem Cx.turn (h:Cx w0 w own G F1 wr own' G') (hb:Below wr.heap.size wr wc) (h2:Bu w0 wc own' G' F2 w2):∃ own2 G2,Cx w0 w own G F2 w2 own2 G2∧(∀ q,q < wc.heap.size→own2 q=own' q)∧Ab (fun q=> own' q≠ .out) wr w2:=by
 obtain⟨⟨own2,G2,hf,hfb,ha⟩,k⟩:=h2
 have k2:=(Ab.Ai (S:=fun q=> own' q≠ .out) hb (Nat.le_refl _)).trans k
 exact⟨own2,G2,h.next hf hfb (fun q hq=> ha q (Nat.lt_of_lt_of_le hq hb.size)) k2,ha,k2⟩
def Aog (own:Nat→Ez) (v:Value):Prop:=∀ q,v.ownBlock=some q→own q= .out
theorem Own.Alm {α:Type} {sz:Nat} {enc:α→List Value} {e:TypeId} {base:Nat} {v:Value} {l:List α} {own2:Nat→Ez} (ho:Own sz enc e wr base v l) (hm:Aog own' v) (k:Ab (fun q=> own' q≠ .out) wr w2) (ha:∀ q,q < wr.heap.size→own2 q=own' q):Own sz enc e w2 base v l∧Aog own2 v:=
 ⟨k.own ho fun q hq e=> e (hm q hq),fun q hq=> (ha q (ho.lt q hq).2).trans (hm q hq)⟩
theorem Own.slc {α:Type} {sz:Nat} {enc:α→List Value} {e:TypeId} {base n cap:Nat} {ao:Option Addr} {l:List α} (h:Own sz enc e w base (.slice ao n cap) l) (hsz:∀ x,(enc x).length=sz):Sl sz enc w ao l:=by
 obtain rfl:=h.len
 exact h.sl hsz
theorem Kk {W w:World} {B:Nat} {cs:Array Value} {t:TypeId} {l:List Value} (_:Below B W w) (hc:cs.toList=l):Bk (w.alloc (.cells cs t)) w.heap.size l:=Bk.new hc
theorem B8.Apu (h:B8 w0 w own G F) (a b:Nat) (ha:a≤1000000) (hb:b≤1000000):∃ r0 r1:Option Addr,(∀ w',Below w.heap.size w w'→(Instr.lookup 87 (.map (some G.mb)) (.agg #[.int .i64 a, .int .i64 b]) false).run Tryz.prog w'= .ok (.agg #[.pointer r0, .pointer r1]) w')∧∀ v,G.rf (B7 a b)=some v→v= .agg #[.pointer r0, .pointer r1]:=by
 cases hv:G.rf (B7 a b) with
 | none=>
   refine⟨none,none,fun w' k=> ?_,fun v e=> by cases e⟩
   have:=(h.later k).Afo a b ha hb
   rw [hv] at this
   exact this
 | some v=>
   obtain⟨_,r0,r1,e⟩:=h.rd (B7 a b) (by rw [hv];simp)
   rw [hv] at e
   cases e
   refine⟨r0,r1,fun w' k=> ?_,fun v e=> by cases e;rfl⟩
   have:=(h.later k).Afo a b ha hb
   rw [hv] at this
   exact this
end
end Go.Proofs.YtbibeionenjmfaaGreatDoor
namespace Go.Proofs.YtbibeionenjmfaaGreatDoor
open Go.RowKit
def Ij (F:Ad):Prop:=∀ (n:Nat) o,F.Af[n]?=some o→o.out=Kf o.rs o.fold o.slices o.lines
theorem Ij.keys {F F':Ad} (h:Ij F) (e:Dw F'=Dw F):Ij F':=fun n o ho=> by
 have h1:(Dw F')[n]?=some (Ys o):=by unfold Dw;rw [List.getElem?_map,ho];rfl
 rw [e] at h1
 unfold Dw at h1
 rw [List.getElem?_map] at h1
 obtain⟨o',ho',e2⟩:=Option.map_eq_some_iff.1 h1
 have h2:=h n o' ho'
 unfold Ys at e2
 simp only [Prod.mk.injEq] at e2
 obtain⟨_,e3,e4,e5,_,e6,_,e7,_⟩:=e2
 rw [←e3,←e4,←e5,←e6,←e7]
 exact h2
theorem Ij.take {F:Ad} (h:Ij F) (q:Int) (prog inp:List UInt8) (size:Int):Ij (Fv F q prog inp size).2:=by
 unfold Fv
 split
 ·exact h
 ·split
  ·exact h
  ·split
   ·exact h
   ·split
    ·exact h
    ·split
     ·exact h
     ·intro n o ho
      dsimp only at ho
      rcases Nat.lt_or_ge n F.Af.length with hn | hn
      ·rw [List.getElem?_append_left hn] at ho
       exact h n o ho
      ·rw [List.getElem?_append_right hn] at ho
       have h1:=(List.getElem?_eq_some_iff.1 ho).1
       simp at h1
       rw [h1] at ho
       simp at ho
       rw [←ho]
       rfl
theorem Ij.M4 {F:Ad} (h:Ij F) (q:Int) (prog inp:List UInt8) (size:Int):Ij (Dm F q prog inp size).2:=by
 unfold Dm
 dsimp only
 split
 ·exact h
 ·exact fun n o ho=> h.take q prog inp size n o ho
end Go.Proofs.YtbibeionenjmfaaGreatDoor
namespace Go.Proofs.YtbibeionenjmfaaGreatDoor
open Go.RowKit
def Vv:Nat:=110000000000
def stB:Nat:=4 * Vv
theorem Ald:stB=4 * Vv:=rfl
structure E8 (F:Ad) (k:Nat):Prop extends InvM F where
 R3:Ij F
 lg:F.log.length≤k * stB
theorem E8.mono {F:Ad} {k k':Nat} (h:E8 F k) (hk:k≤k'):E8 F k':=⟨h.toInvM,h.R3,Nat.le_trans h.lg (Nat.mul_le_mul_right _ hk)⟩
theorem E8.lgk {F:Ad} {k:Nat} (h:E8 F k) (hk:k≤10000):F.log.length≤900000000000000000:=Nat.le_trans h.lg (Nat.le_trans (Nat.mul_le_mul_right _ hk) (by decide))
theorem Qw {Aj:List (Int×Int)} {workers Ag:Nat} (hq:Er Aj=0) (hw:1≤workers∧workers≤4) (hs:1≤Ag∧Ag≤3):E8 (F9 Aj workers Ag) 0:=
 ⟨Ul hq hw hs,fun n o ho=> by unfold F9 at ho;simp at ho,by unfold F9;simp⟩
theorem Ij.small {F:Ad} (h:Ij F) (hi:InvC F) {n:Nat} {o:Ba} (ho:F.Af[n]?=some o):∀ t∈o.out,t.size≤10000000:=fun t ht=> by
 rw [h n o ho] at ht
 unfold Kf at ht
 obtain⟨k,hk,rfl⟩:=List.mem_map.1 ht
 have hf:=hi.Hl n o ho
 have hks:k < o.slices:=List.mem_range.1 hk
 have h1:=hf.T4 k (Ae o.fold (Cd o k)).length
 rw [List.take_length,hf.Ll hks] at h1
 rw [Am]
 omega
theorem Aki {F:Ad} {j i:Nat} {s:ByteArray} (hj:j≤1000000) (hi:i≤1000000) (hs:s.size≤10000000):(Kc (tx Uw, [(j:Int),(i:Int)], [s])).length≤Vv:=by
 have h:=S4 (k:=tx Uw) (N:= [(j:Int),(i:Int)]) (T:= [s]) (by decide) (by
  intro x hx
  simp at hx
  rcases hx with rfl | rfl <;> constructor <;> omega) (by simp) (by simp) (by
  intro t ht
  simp at ht
  rw [ht];exact hs)
 rw [Am] at h
 exact h
theorem Ae2 {F:Ad} (h:InvC F) (ho:Ij F) (w k:Nat) (many:Int):(Br F w k many).log.length≤F.log.length+Vv:=by
 unfold Br
 split
 ·omega
 ·next a _=>
  split
  ·omega
  ·split
   ·omega
   ·next p hp=>
    dsimp only
    generalize (if 0 < many then a.at_+min many.toNat (p.many - a.at_) else a.at_)=n
    split
    ·show F.log.length≤_;omega
    ·split
     ·show F.log.length≤_;omega
     ·split
      ·obtain⟨o,hj,hl⟩:=Ia hp
       have h1:=(List.getElem?_eq_some_iff.1 hj).1
       have h2:=h.jl
       have h3:=(List.getElem?_eq_some_iff.1 hl).1
       have h4:=(h.Hl _ o hj).len a.t.2.1
       have hi:a.t.2.2≤1000000:=by
        have hf:=h.Hl _ o hj
        have h5:=hf.Nl
        have h6:=hf.Nq
        have h7:=hf.Afy
        unfold Eb at h3
        split at h3 <;> omega
       have hs:(((F.Af[a.t.1]?).bind fun o=> o.out[a.t.2.2]?).getD (tx [])).size≤10000000:=by
        rw [hj]
        simp only [Option.bind_some]
        cases hq:o.out[a.t.2.2]? with
        | none=> decide
        | some s=> exact ho.small h hj s (List.mem_of_getElem? hq)
       have:=Aki (F:=F) (j:=a.t.1) (i:=a.t.2.2) (by omega) hi hs
       show(F.log++_).length≤_
       rw [List.length_append]
       omega
      ·show F.log.length≤_;omega
theorem O1 {F:Ad} (h:InvM F) (ho:Ij F) (w:Nat) (many:Int):∀ k,Ij (A1 F w many k)∧(A1 F w many k).log.length≤F.log.length+k * Vv
 | 0=> ⟨ho,Nat.le_add_right _ _⟩
 | k+1=> by
   obtain⟨h1,h2⟩:=O1 h ho w many k
   refine⟨ho.keys (Mp F w many (k+1)),?_⟩
   have:=Ae2 (InvM.A1 h w many k).toInvC h1 w k many
   show(Br (A1 F w many k) w k many).log.length≤_
   rw [Nat.succ_mul]
   omega
theorem E8.work {F:Ad} {k:Nat} (h:E8 F k) (w many:Int):E8 (Cu F w many).2 (k+1):=by
 refine⟨h.toInvM.work w many,h.R3.keys (Qu F w many),?_⟩
 have hl:=h.lg
 rw [Nat.succ_mul]
 unfold Cu
 split
 ·dsimp only;omega
 ·split
  ·dsimp only;omega
  ·next row hr=>
   have h1:=(O1 h.toInvM h.R3 w.toNat many row.length).2
   obtain⟨n,hn,hrow⟩:=h.rows
   have h2:=hrow row (List.mem_of_getElem? hr)
   have h3:=Nat.mul_le_mul_right Vv (show row.length≤3 by omega)
   have h4:=Ald
   dsimp only
   omega
theorem E8.offer {F:Ad} {k:Nat} (h:E8 F k) (w:Int):E8 (A4 F w).2 k:=by
 refine⟨h.toInvM.offer w,h.R3.keys (Lp F w),?_⟩
 have:(A4 F w).2.log=F.log:=by
  unfold A4
  dsimp only
  split
  ·rfl
  ·split <;> rfl
 rw [this];exact h.lg
theorem E8.M4 {F:Ad} {k:Nat} (h:E8 F k) (q:Int) (prog inp:List UInt8) (size:Int) (hp:prog.length≤100000) (hi:inp.length≤1000000):E8 (Dm F q prog inp size).2 (k+1):=by
 refine⟨h.toInvM.M4 q prog inp size,h.R3.M4 q prog inp size,?_⟩
 have hl:=h.lg
 rw [Nat.succ_mul]
 have hq:=(Afs h.qs).1
 unfold Dm
 dsimp only
 rcases Sj F q prog inp size with ⟨h1,_⟩ | ⟨h1,h2,h3,_⟩
 ·rw [if_pos h1];dsimp only;omega
 ·rw [if_neg (by rw [h1];simp)]
  have:=S4 (k:=tx Ua) (N:= [q,size]) (T:= [tx prog,tx inp]) (by decide) (by
   intro x hx
   simp at hx
   rcases hx with rfl | rfl <;> constructor <;> omega) (by simp) (by simp) (by
   intro t ht
   simp at ht
   rcases ht with rfl | rfl <;> rw [Am] <;> omega)
  rw [Am] at this
  have h4:=Ald
  have h6:(110000000000:Nat)=Vv:=rfl
  rw [h6] at this
  show(F.log++_).length≤_
  rw [List.length_append]
  omega
theorem E8.round {F:Ad} {k:Nat} (h:E8 F k) (w:Nat):E8 (Fp F w).2 (k+2):=by
 unfold Fp
 exact(((((h.work (w:Int) 1048576).offer (w:Int)).offer (w:Int)).offer (w:Int)).work (w:Int) 1048576)
theorem E8.rounds {F:Ad} {k:Nat} (h:E8 F k):∀ m,E8 (At F m).2 (k+m * 2)
 | 0=> h
 | m+1=> by
   have:=(E8.rounds h m).round m
   rw [show k+(m+1) * 2=k+m * 2+2 by omega]
   exact this
end Go.Proofs.YtbibeionenjmfaaGreatDoor
namespace Go.Proofs.YtbibeionenjmfaaGreatDoor
open Go.RowKit
section
variable {w0 w w' wr:World} {own own':Nat→Ez} {G G':Bg} {F F1:Ad}
structure Ik (w0 w:World) (own:Nat→Ez) (G:Bg) (F':Ad) (ao:Option Addr) (n cap a:Nat) (wr:World) (own':Nat→Ez) (G':Bg):Prop where
 t:Cx w0 w own G F' wr own' G'
 pl:Own 2 Bx 60 wr w.heap.size (.slice ao n cap) (Fo a n)
 out:Aog own' (.slice ao n cap)
theorem Ik.turn {ao:Option Addr} {n cap a:Nat} {wc w2:World} {F2:Ad} (h:Ik w0 w own G F1 ao n cap a wr own' G') (hb:Below wr.heap.size wr wc) (h2:Bu w0 wc own' G' F2 w2):∃ own2 G2,Ik w0 w own G F2 ao n cap a w2 own2 G2:=by
 obtain⟨own2,G2,ht,ha,k⟩:=h.t.turn hb h2
 obtain⟨h3,h4⟩:=h.pl.Alm h.out k fun q hq=> ha q (Nat.lt_of_lt_of_le hq hb.size)
 exact⟨own2,G2,ht,h3,h4⟩
theorem Ik.later {ao:Option Addr} {n cap a:Nat} {wc:World} (h:Ik w0 w own G F1 ao n cap a wr own' G') (hb:Below wr.heap.size wr wc):Ik w0 w own G F1 ao n cap a wc own' G':=
 ⟨h.t.later hb,(Ab.Ai (S:=fun _=> False) hb (Nat.le_refl _)).own h.pl fun _ _=> id,h.out⟩
theorem Ik.next {ao:Option Addr} {n cap a:Nat} {wc w2:World} {F2:Ad} {own2:Nat→Ez} {G2:Bg} (h:Ik w0 w own G F1 ao n cap a wr own' G') (hb:Below wr.heap.size wr wc) (hf:B8 w0 w2 own2 G2 F2) (hfb:G2.fb=G'.fb) (ha:∀ q,q < wc.heap.size→own2 q=own' q) (k:Ab (fun q=> own' q≠ .out) wc w2):Ik w0 w own G F2 ao n cap a w2 own2 G2:=by
 have h':=h.later hb
 obtain⟨h3,h4⟩:=h'.pl.Alm h'.out k ha
 exact⟨h'.t.next hf hfb ha k,h3,h4⟩
theorem Ain {a b:Nat} {t:Gb} {v:Value} {p:As} (h:B8 w0 w own G F) (hi:InvC F) (ht:An F a b=some t) (hon:t.on=true) (hv:G.rf (B7 a b)=some v) (hp:ofM F t.t=some p) (hat:t.at_≤p.many) (many:Int) (hmany:many≤9223372036854775807):
 Calls Tryz.prog 47 #[v, .int .i64 many] w fun e w'=> e= .returned (.bool (decide (¬ Fu t.at_ many p < p.many)))∧Ab (fun q=> own q= .run a b) w w'∧Bu w0 w own G (Au F a b {t with at_:=Fu t.at_ many p}) w'∧B8 w0 w' (Dr own w.heap.size w'.heap.size (.run a b)) G (Au F a b {t with at_:=Fu t.at_ many p}):=by
 refine(Acq h hi ht hon hv hp hat many hmany).mono ?_
 rintro e w' ⟨rfl,k,hf⟩
 refine⟨rfl,k,⟨⟨_,_,hf,rfl,fun q hq=> Ch (by omega)⟩,k.mono fun q hq=> by rw [hq];simp⟩,hf⟩
set_option maxRecDepth 100000 in
set_option maxHeartbeats 4000000 in
theorem Qb (wk many:Int) (h:B8 w0 w own G F) (hi:InvM F) (hou:Ij F) (hlg:F.log.length≤900000000000000000) (hmany:many≤9223372036854775807):
 Calls Tryz.prog 18 #[.pointer (some ⟨G.fb,0,none⟩), .int .i64 wk, .int .i64 many] w fun e w'=> e= .returned (Du (Cu F wk many).1)∧Bu w0 w own G (Cu F wk many).2 w':=by
 by_cases hw:0≤wk∧wk < F.Ag.length
 ·obtain⟨a,rfl⟩:∃ a:Nat,wk=a:=⟨wk.toNat,by omega⟩
  have hal:a < F.Ag.length:=by omega
  obtain⟨row,hrow⟩:∃ row,F.Ag[a]?=some row:=⟨_,List.getElem?_eq_getElem hal⟩
  have hn:=h.Xt hrow
  have HWM:Hid (Cu F (a:Int) many=(0,A1 F a many G.n)):=by
   show _=_
   unfold Cu
   rw [if_neg (by omega),Int.toNat_natCast,hrow]
   dsimp only
   rw [hn]
  have HS:=Aa (Acr h hal)
  have HST:=Aa fun(w1:World) (hb:Below w.heap.size w w1)=> Cx.start h hb
  have HOG:=Aa fun(q:Nat) (hq:w.heap.size≤q)=> h.Eo hq
  have HINV:=Aa fun k=> hi.A1 a many k
  have HLOG:=Aa fun k=> O1 hi hou a many k
  have ha4:a < 4:=by have:=h.bt.lr;have:=h.rows;omega
  have hn3:G.n≤3:=h.bt.ln
  have HSLT:Hid (∀ k b,b < G.n→∃ t,An (A1 F a many k) a b=some t):=by
   intro k b hb
   exact Sp (t:=row[b]) (by unfold An;rw [hrow];exact List.getElem?_eq_getElem (by omega)) k
  clear hw hal hrow hn h hi hou
  generalize G.n=n at *
  go_enter Tryz.func18,Tryz.ntmps18
  go_wp2_with fail
  refine HS.out.mono ?_
  rintro e w1 ⟨ao,cap,rfl,hpl,b1⟩
  have HR0:Hid (Ik w0 w own G (A1 F a many 0) ao n cap a w1 own G):=⟨HST.out w1 b1,hpl,fun q hq=> HOG.out q (hpl.lt q hq).1⟩
  clear HS HST hpl b1
  go_wp2
  go_loopw [22] (fun iv wr=> ∃ k:Nat,k≤n∧iv= .int .i64 k∧Hid (∃ own' G',Ik w0 w own G (A1 F a many k) ao n cap a wr own' G')) (fun iv _=> n - (intOf iv).toNat)
  case atStart=> exact⟨0,by omega,by go_num,⟨_,_,HR0.out⟩⟩
  case round=>
   clear HR0
   obtain⟨k,hk,rfl,HR⟩:=hrel
   by_cases hlt:k < n
   ·obtain⟨own',G',hr⟩:=HR.out
    have hsl:=hr.pl.slc Be
    obtain⟨pb,poff,x0,y0,rfl,hpb,hxy,c0,c1⟩:=hsl.Ahq (k:=k) (by rw [Lt];exact hlt)
    rw [Y6 hlt] at hxy
    injection hxy with hxy
    injection hxy with hx hy
    subst hx hy
    obtain⟨W,hW⟩:∃ W,W=wr.alloc (.cells #[.int .i64 a, .int .i64 k] 60):=⟨_,rfl⟩
    have hb0:Below wr.heap.size wr W:=by rw [hW];exact ba wr _
    have hpb2:Bk W wr.heap.size [.int .i64 a, .int .i64 k]:=by rw [hW];exact Bk.new rfl
    have hfW:=hr.t.fl.later hb0
    obtain⟨st,hst⟩:=HSLT.out k k hlt
    have hin:inM (A1 F a many k) (a:Int) (k:Int)=if st.on=true then(st.t,0) else(Ha,7):=Aj6 hst
    obtain⟨r0,r1,hlk,hrv⟩:=hfW.Apu a k (by omega) (by omega)
    have HRR:=Aa hr
    have HFW:=Aa hfW
    have HIN:=Aa fun w' (hb:Below W.heap.size W w')=> Alz (a:Int) (k:Int) (hfW.later hb)
    rw [hin] at HIN
    obtain⟨tv,er,htv⟩:∃ tv er,(if st.on=true then(st.t,0) else(Ha,7):Ev×Int)=(tv,er):=⟨_,_,rfl⟩
    rw [htv] at HIN
    have HTV:=Aa htv
    have HST:=Aa hst
    have HB0:=Aa hb0
    have HPB:=Aa hpb2
    have HLK:=Aa hlk
    have HRV:=Aa hrv
    have q0:=hpb2.get (j:=0) rfl
    have q1:=hpb2.get (j:=1) rfl
    have d1:=hfW.bk.get (j:=1) rfl
    have d2:=hfW.bk.get (j:=2) rfl
    rw [hr.t.fb] at d1 d2
    have HW:=Aa hW
    unfold C9 at HIN
    obtain⟨tn,tf,ti⟩:=tv
    dsimp only at HIN
    clear hr hsl HR hW hb0 hpb2 hfW hst hin hlk hrv htv
    go_upto_region 5 with (fail)
    rw [←HW.out]
    clear HW c0 c1
    go_cut [11,12] from 26 to 34 (fun tv ev wc=> ∃ tb,tv= .pointer (some ⟨tb,0,none⟩)∧ev=Du er∧Hid (Bk wc tb [.int .i64 tn, .bool tf, .int .i64 ti])∧Hid (W.heap.size≤tb)∧Hid (Below W.heap.size W wc))
    case first=>
     refine wp_region_noPanic ?_
     refine Al (S:=(fun w'=> Below W.heap.size W w')) (E:= [10]) (by kernel_rfl) ?_ (fun hHeld=> ?_)
     ·(first | exact(Below.refl _ _).drew | exact hHeld.alloc hHeld.size _ | exact hHeld.trans (b2.mono hHeld.size) | exact hHeld)
     try dsimp only [List.size_toArray,List.length_cons,List.length_nil,Nat.reduceAdd]
     refine hP 0 (v:=?_) rfl (by kernel_rfl) (by rfl) ?_ ?_
     rotate_left
     focus (intro w;go_simp;try with_reducible rfl)
     try simp only [Act.put,List.setIfInBounds_toArray,List.set_cons_zero,List.set_cons_succ]
     refine hT 4 [[4]] (v:=?_) rfl (by kernel_rfl) (by rfl) (by assumption) ?_ ?_
     rotate_left
     focus (intro w hSw;(try dsimp only at hSw);(have t0:=cell_later hSw q0;have t1:=cell_later hSw q1;have t2:=cell_later hSw d1);go_simp;try with_reducible rfl)
     try simp only [Act.put,List.setIfInBounds_toArray,List.set_cons_zero,List.set_cons_succ]
     refine hP 1 (v:=?_) rfl (by kernel_rfl) (by rfl) ?_ ?_
     rotate_left
     focus (intro w;go_simp;try with_reducible rfl)
     try simp only [Act.put,List.setIfInBounds_toArray,List.set_cons_zero,List.set_cons_succ]
     refine hP 2 (v:=?_) rfl (by kernel_rfl) (by rfl) ?_ ?_
     rotate_left
     focus (intro w;go_simp;try with_reducible rfl)
     try simp only [Act.put,List.setIfInBounds_toArray,List.set_cons_zero,List.set_cons_succ]
     refine hT 3 [[3]] (v:=?_) rfl (by kernel_rfl) (by rfl) (by assumption) ?_ ?_
     rotate_left
     focus (intro w hSw;(try dsimp only at hSw);(have t0:=cell_later hSw q0;have t1:=cell_later hSw q1;have t2:=cell_later hSw d1);go_simp;try with_reducible rfl)
     try simp only [Act.put,List.setIfInBounds_toArray,List.set_cons_zero,List.set_cons_succ]
     refine hR [5,9] (by kernel_rfl) (by simp) (Ac.cons rfl (fun KH hKH=> ?_) (Ac.cons rfl (fun KH hKH=> ?_) .nil))
     ·go_simp
      (go_at_call 46;refine(HIN.out _ hHeld).mono ?_;rintro e w2 ⟨rfl,b2⟩)
      try replace hbk0:=hbk0.later b2
      refine hKH.out _ _ ?_ (fun hNew=> ?_)
      ·(first | exact(Below.refl _ _).drew | exact hHeld.alloc hHeld.size _ | exact hHeld.trans (b2.mono hHeld.size) | exact hHeld)
      clear hKH KH hHeld
      have hHeld:=hNew
      clear hNew
      try simp only [Act.put,List.setIfInBounds_toArray,List.set_cons_zero,List.set_cons_succ]
      refine hP 6 (v:=?_) rfl (by kernel_rfl) (by rfl) ?_ ?_
      rotate_left
      focus (intro w;go_simp;try with_reducible rfl)
      try simp only [Act.put,List.setIfInBounds_toArray,List.set_cons_zero,List.set_cons_succ]
      refine hP 7 (v:=?_) rfl (by kernel_rfl) (by rfl) ?_ ?_
      rotate_left
      focus (intro w;go_simp;try with_reducible rfl)
      try simp only [Act.put,List.setIfInBounds_toArray,List.set_cons_zero,List.set_cons_succ]
      refine hP 8 (v:=?_) rfl (by kernel_rfl) (by rfl) ?_ ?_
      rotate_left
      focus (intro w;go_simp;try with_reducible rfl)
      try simp only [Act.put,List.setIfInBounds_toArray,List.set_cons_zero,List.set_cons_succ]
      refine hR [9] (by kernel_rfl) (by simp) (Ac.cons rfl (fun KH hKH=> ?_) .nil)
      have hbk0:=Kk (cs:= #[.int .i64 0, .bool false, .int .i64 0]) (t:=33) hHeld rfl
      try (have hbkq:Bk _ W.heap.size _:=hbk0;clear hbk0;have hbk0:=hbkq)
      have hbn:=Kk (cs:= #[.int .i64 tn, .bool tf, .int .i64 ti]) (t:=33) hHeld rfl
      have hal:=hHeld.alloc hHeld.size (.cells #[.int .i64 tn, .bool tf, .int .i64 ti] 33)
      have hlo0:=hHeld.size
      go_simp
      refine hKH.out _ _ ?_ (fun hNew=> ?_)
      ·(first | exact(Below.refl _ _).drew | exact hHeld.alloc hHeld.size _ | exact hHeld.trans (b2.mono hHeld.size) | exact hHeld)
      clear hKH KH hHeld
      have hHeld:=hNew
      clear hNew
      try simp only [Act.put,List.setIfInBounds_toArray,List.set_cons_zero,List.set_cons_succ]
      refine hR [10] (by kernel_rfl) (by simp) (Ac.Bb rfl (by kernel_rfl) (fun KH hKH=> ?_) .nil)
      have c0:=hbk0.get (j:=0) rfl
      have c1:=hbk0.get (j:=1) rfl
      have c2:=hbk0.get (j:=2) rfl
      have z0:=hbk0.fz 0
      have z1:=hbk0.fz 1
      have z2:=hbk0.fz 2
      have hb9:=Hy (.int .i64 tn) (.bool tf) (.int .i64 ti) hHeld hlo0
      have hk9:=hbk0.s3 (.int .i64 tn) (.bool tf) (.int .i64 ti)
      go_simp
      refine hKH.out _ _ ?_
      clear hKH KH
      try clear hHeld
      try simp only [Act.put,List.setIfInBounds_toArray,List.set_cons_zero,List.set_cons_succ]
      refine hP 11 (v:=?_) rfl (by kernel_rfl) (by rfl) ?_ ?_
      rotate_left
      focus (intro w;go_simp;try with_reducible rfl)
      try simp only [Act.put,List.setIfInBounds_toArray,List.set_cons_zero,List.set_cons_succ]
      refine Ak (by kernel_rfl) ?_ _
      refine NoPanic.normal ?_
      go_wp2
      go_meet
      first | exact⟨_,rfl,rfl,hk9,hlo0,hb9⟩ | exact⟨_,rfl,rfl,hbn,hlo0,hal⟩
     ·have hbk0:=Kk (cs:= #[.int .i64 0, .bool false, .int .i64 0]) (t:=33) hHeld rfl
      try (have hbkq:Bk _ W.heap.size _:=hbk0;clear hbk0;have hbk0:=hbkq)
      have hbn:=Kk (cs:= #[.int .i64 tn, .bool tf, .int .i64 ti]) (t:=33) hHeld rfl
      have hal:=hHeld.alloc hHeld.size (.cells #[.int .i64 tn, .bool tf, .int .i64 ti] 33)
      have hlo0:=hHeld.size
      go_simp
      refine hKH.out _ _ ?_ (fun hNew=> ?_)
      ·(first | exact(Below.refl _ _).drew | exact hHeld.alloc hHeld.size _ | exact hHeld.trans (b2.mono hHeld.size) | exact hHeld)
      clear hKH KH hHeld
      have hHeld:=hNew
      clear hNew
      try simp only [Act.put,List.setIfInBounds_toArray,List.set_cons_zero,List.set_cons_succ]
      refine hR [5] (by kernel_rfl) (by simp) (Ac.cons rfl (fun KH hKH=> ?_) .nil)
      go_simp
      (go_at_call 46;refine(HIN.out _ hHeld).mono ?_;rintro e w2 ⟨rfl,b2⟩)
      try replace hbk0:=hbk0.later b2
      refine hKH.out _ _ ?_ (fun hNew=> ?_)
      ·(first | exact(Below.refl _ _).drew | exact hHeld.alloc hHeld.size _ | exact hHeld.trans (b2.mono hHeld.size) | exact hHeld)
      clear hKH KH hHeld
      have hHeld:=hNew
      clear hNew
      try simp only [Act.put,List.setIfInBounds_toArray,List.set_cons_zero,List.set_cons_succ]
      refine hP 6 (v:=?_) rfl (by kernel_rfl) (by rfl) ?_ ?_
      rotate_left
      focus (intro w;go_simp;try with_reducible rfl)
      try simp only [Act.put,List.setIfInBounds_toArray,List.set_cons_zero,List.set_cons_succ]
      refine hP 7 (v:=?_) rfl (by kernel_rfl) (by rfl) ?_ ?_
      rotate_left
      focus (intro w;go_simp;try with_reducible rfl)
      try simp only [Act.put,List.setIfInBounds_toArray,List.set_cons_zero,List.set_cons_succ]
      refine hP 8 (v:=?_) rfl (by kernel_rfl) (by rfl) ?_ ?_
      rotate_left
      focus (intro w;go_simp;try with_reducible rfl)
      try simp only [Act.put,List.setIfInBounds_toArray,List.set_cons_zero,List.set_cons_succ]
      refine hR [10] (by kernel_rfl) (by simp) (Ac.Bb rfl (by kernel_rfl) (fun KH hKH=> ?_) .nil)
      have c0:=hbk0.get (j:=0) rfl
      have c1:=hbk0.get (j:=1) rfl
      have c2:=hbk0.get (j:=2) rfl
      have z0:=hbk0.fz 0
      have z1:=hbk0.fz 1
      have z2:=hbk0.fz 2
      have hb9:=Hy (.int .i64 tn) (.bool tf) (.int .i64 ti) hHeld hlo0
      have hk9:=hbk0.s3 (.int .i64 tn) (.bool tf) (.int .i64 ti)
      go_simp
      refine hKH.out _ _ ?_
      clear hKH KH
      try clear hHeld
      try simp only [Act.put,List.setIfInBounds_toArray,List.set_cons_zero,List.set_cons_succ]
      refine hP 11 (v:=?_) rfl (by kernel_rfl) (by rfl) ?_ ?_
      rotate_left
      focus (intro w;go_simp;try with_reducible rfl)
      try simp only [Act.put,List.setIfInBounds_toArray,List.set_cons_zero,List.set_cons_succ]
      refine Ak (by kernel_rfl) ?_ _
      refine NoPanic.normal ?_
      go_wp2
      go_meet
      first | exact⟨_,rfl,rfl,hk9,hlo0,hb9⟩ | exact⟨_,rfl,rfl,hbn,hlo0,hal⟩
    case rest=>
     obtain⟨tb,rfl,rfl,HBT,HTL,HBW⟩:=hcut
     have hpc:=HPB.out.later HBW.out
     have s0:=hpc.get (j:=0) rfl
     have s1:=hpc.get (j:=1) rfl
     have s2:=cell_later HBW.out d2
     have HLK2:=Aa fun w' (hb:Below wc.heap.size wc w')=> HLK.out w' (HBW.out.trans (hb.mono HBW.out.size))
     have HPC:=Aa hpc
     clear q0 q1 d1 d2 HLK hpc
     go_upto_region 6 with (fail)
     go_cut [13] from 35 to 40 (fun rv w6=> ∃ rb,rv= .pointer (some ⟨rb,0,none⟩)∧Hid (Bk w6 rb [.pointer r0, .pointer r1])∧Hid (wc.heap.size≤rb)∧Hid (Below wc.heap.size wc w6))
     case first=>
      refine wp_region_noPanic ?_
      refine Al (S:=(fun w'=> Below wc.heap.size wc w')) (E:= [7]) (by kernel_rfl) ?_ (fun hHeld=> ?_)
      ·(first | exact(Below.refl _ _).drew | exact hHeld.alloc hHeld.size _ | exact hHeld)
      try dsimp only [List.size_toArray,List.length_cons,List.length_nil,Nat.reduceAdd]
      refine hP 0 (v:=?_) rfl (by kernel_rfl) (by rfl) ?_ ?_
      rotate_left
      focus (intro w;go_simp;try with_reducible rfl)
      try simp only [Act.put,List.setIfInBounds_toArray,List.set_cons_zero,List.set_cons_succ]
      refine hT 4 [[4]] (v:=?_) rfl (by kernel_rfl) (by rfl) (by assumption) ?_ ?_
      rotate_left
      focus (intro w hSw;(try dsimp only at hSw);(have t0:=cell_later hSw s0;have t1:=cell_later hSw s1;have t2:=cell_later hSw s2;have lk:=HLK2.out _ hSw);go_simp;try with_reducible rfl)
      try simp only [Act.put,List.setIfInBounds_toArray,List.set_cons_zero,List.set_cons_succ]
      refine hP 1 (v:=?_) rfl (by kernel_rfl) (by rfl) ?_ ?_
      rotate_left
      focus (intro w;go_simp;try with_reducible rfl)
      try simp only [Act.put,List.setIfInBounds_toArray,List.set_cons_zero,List.set_cons_succ]
      refine hP 2 (v:=?_) rfl (by kernel_rfl) (by rfl) ?_ ?_
      rotate_left
      focus (intro w;go_simp;try with_reducible rfl)
      try simp only [Act.put,List.setIfInBounds_toArray,List.set_cons_zero,List.set_cons_succ]
      refine hT 3 [[3]] (v:=?_) rfl (by kernel_rfl) (by rfl) (by assumption) ?_ ?_
      rotate_left
      focus (intro w hSw;(try dsimp only at hSw);(have t0:=cell_later hSw s0;have t1:=cell_later hSw s1;have t2:=cell_later hSw s2;have lk:=HLK2.out _ hSw);go_simp;try with_reducible rfl)
      try simp only [Act.put,List.setIfInBounds_toArray,List.set_cons_zero,List.set_cons_succ]
      refine hT 5 [[5]] (v:=?_) rfl (by kernel_rfl) (by rfl) (by assumption) ?_ ?_
      rotate_left
      focus (intro w hSw;(try dsimp only at hSw);(have t0:=cell_later hSw s0;have t1:=cell_later hSw s1;have t2:=cell_later hSw s2;have lk:=HLK2.out _ hSw);go_simp;try with_reducible rfl)
      try simp only [Act.put,List.setIfInBounds_toArray,List.set_cons_zero,List.set_cons_succ]
      refine hR [6] (by kernel_rfl) (by simp) (Ac.cons rfl (fun KH hKH=> ?_) .nil)
      have hbn:=Kk (cs:= #[.pointer r0, .pointer r1]) (t:=112) hHeld rfl
      have hal:=hHeld.alloc hHeld.size (.cells #[.pointer r0, .pointer r1] 112)
      have hlo0:=hHeld.size
      go_simp
      refine hKH.out _ _ ?_ (fun hNew=> ?_)
      ·(first | exact(Below.refl _ _).drew | exact hHeld.alloc hHeld.size _ | exact hHeld)
      clear hKH KH hHeld
      have hHeld:=hNew
      clear hNew
      try simp only [Act.put,List.setIfInBounds_toArray,List.set_cons_zero,List.set_cons_succ]
      refine hR [7] (by kernel_rfl) (by simp) (Ac.Bb rfl (by kernel_rfl) (fun KH hKH=> ?_) .nil)
      go_simp
      refine hKH.out _ _ ?_
      clear hKH KH
      try clear hHeld
      refine Ak (by kernel_rfl) ?_ _
      refine NoPanic.normal ?_
      go_wp2
      go_meet
      exact⟨_,rfl,hbn,hlo0,hal⟩
     case rest=>
      obtain⟨rb,rfl,HBR,HRL,HBC⟩:=hcut
      clear s0 s1 s2 HLK2
      have HB6:Hid (Below W.heap.size W wc):=HBW.out.trans (HBC.out.mono HBW.out.size)
      have HWR:Hid (Below wr.heap.size wr wc):=HB0.out.trans (HB6.out.mono HB0.out.size)
      have hrbk:=HBR.out
      have v0:=hrbk.get (j:=0) rfl
      have v1:=hrbk.get (j:=1) rfl
      cases hon:st.on with
      | false=>
        have htv:=HTV.out
        rw [hon,if_neg (by simp)] at htv
        injection htv with _ e2
        subst e2
        rw [Ar (by decide)]
        have HNEXT:Hid (∃ own' G',Ik w0 w own G (A1 F a many (k+1)) (some ⟨pb,poff,none⟩) n cap a wc own' G'):=by
         refine⟨own',G',?_⟩
         show Ik w0 w own G (Br (A1 F a many k) a k many) _ n cap a wc own' G'
         rw [Ae3 HST.out hon]
         exact HRR.out.later HWR.out
        clear hrbk v0 v1 HRR HFW HIN HTV HST HB0 HPB HRV HBT HTL HBW HPC HBR HRL HBC HB6 HWR hon
        go_wp2
        go_roundw
        case rel=> exact⟨k+1,by omega,by go_num,HNEXT⟩
        case measure=> (simp [intOf];try omega)
      | true=>
        have htv:=HTV.out
        rw [hon,if_pos rfl] at htv
        injection htv with e1 e2
        subst e2
        rw [A3]
        have hrc:=HRR.out.later HWR.out
        have hfc:=hrc.t.fl
        obtain⟨p,hp,hat⟩:=(HINV.out k).att a k st HST.out hon
        obtain⟨v,g,o,hv,hg,ho,hrun⟩:=hfc.rr a k st HST.out hon
        have hvv:=HRV.out v hv
        subst hvv
        have HSTEP:=Aa (Ain hfc (HINV.out k).toInvC HST.out hon hv hp hat many hmany)
        have HPC2:=Aa ((HPC.out.later HBC.out))
        have HBT2:=Aa (HBT.out.later HBC.out)
        obtain⟨sn,hsn⟩:∃ sn,sn=Fu st.at_ many p:=⟨_,rfl⟩
        obtain⟨fin,hfin⟩:∃ fin,fin=decide (¬ sn < p.many):=⟨_,rfl⟩
        rw [←hsn,←hfin] at HSTEP
        have HSN:=Aa hsn
        have HFIN:=Aa hfin
        have HRC:=Aa hrc
        have HP:=Aa hp
        have HAT:=Aa hat
        have HV:=Aa hv
        have HO:=Aa ho
        have HON:=Aa hon
        have HE1:=Aa e1
        have HRBK:=Aa hrbk
        have HOUT:Hid (own' wr.heap.size= .out∧own' tb= .out∧own' rb= .out):=by
         have h1:=HB0.out.size
         have h2:wr.heap.size≤tb:=Nat.le_trans h1 HTL.out
         have h3:W.heap.size≤rb:=Nat.le_trans HBW.out.size HRL.out
         exact⟨HRR.out.t.fl.Eo (Nat.le_refl _),HRR.out.t.fl.Eo h2,HRR.out.t.fl.Eo (Nat.le_trans h1 h3)⟩
        clear hrc hfc hp hat hv hg ho hrun hsn hfin hon e1 hrbk HTV HIN HFW HRV HB0 HPB HBT HTL HBW HPC HBR HRL HBC HB6
        go_wp2_with fail
        refine HSTEP.out.mono ?_
        rintro e w7 ⟨rfl,k7,hft,hfl⟩
        have HK7:=Aa k7
        have HFL:=Aa hfl
        clear k7 hft hfl HSTEP v0 v1
        have HW7:=Aa (HRC.out.next (Below.refl _ _) HFL.out rfl (fun q hq=> Ch (by omega)) (HK7.out.mono fun q hq=> by rw [hq];simp))
        cases hfv:fin with
        | false=>
          have HNEXT:Hid (∃ own' G',Ik w0 w own G (A1 F a many (k+1)) (some ⟨pb,poff,none⟩) n cap a w7 own' G'):=by
           refine⟨Dr own' wc.heap.size w7.heap.size (.run a k),G',?_⟩
           show Ik w0 w own G (Br (A1 F a many k) a k many) _ n cap a w7 _ _
           rw [Yb HST.out HON.out HP.out,←HSN.out,if_pos (by have:=HFIN.out;rw [hfv] at this;simpa using this.symm)]
           exact HW7.out
          clear HK7 HFL HW7 HRR HST HPC2 HBT2 HRBK HRC HP HAT HV HO HON HE1 HOUT HWR HSN HFIN hfv
          go_wp2
          go_roundw
          case rel=> exact⟨k+1,by omega,by go_num,HNEXT⟩
          case measure=> (simp [intOf];try omega)
        | true=>
          have hnl:¬ sn < p.many:=by have:=HFIN.out;rw [hfv] at this;simpa using this.symm
          have hsm:sn=p.many:=by
           have h1:=HAT.out
           have h2:sn≤p.many:=by rw [HSN.out];unfold Fu;split <;> omega
           omega
          obtain⟨o2,ho2,hpl2⟩:=Ia HP.out
          rw [HE1.out] at ho2 hpl2
          have HFF:=Aa (Zp (a:=a) (b:=k) (t:={st with at_:=sn}) (v:= .agg #[.pointer r0, .pointer r1]) HFL.out ((HINV.out k).toInvC.Au a k _) (by rw [Ce,if_pos ⟨rfl,rfl⟩,HST.out];rfl) HON.out HE1.out HV.out ho2 hpl2 hsm ((HLOG.out k).1 _ _ ho2) (by
           have h1:=(HLOG.out k).2
           have h2:k * Vv≤3 * Vv:=Nat.mul_le_mul_right _ (by omega)
           have h3:3 * Vv=330000000000:=rfl
           show(A1 F a many k).log.length≤_
           omega) ha4 (by omega))
          have hp7:=HPC2.out.kept HK7.out (by rw [HOUT.out.1];simp)
          have ht7:=HBT2.out.kept HK7.out (by rw [HOUT.out.2.1];simp)
          have hr7:=HRBK.out.kept HK7.out (by rw [HOUT.out.2.2];simp)
          have p0:=hp7.get (j:=0) rfl
          have p1:=hp7.get (j:=1) rfl
          have t0:=ht7.get (j:=0) rfl
          have t1:=ht7.get (j:=1) rfl
          have t2:=ht7.get (j:=2) rfl
          have v0:=hr7.get (j:=0) rfl
          have v1:=hr7.get (j:=1) rfl
          rw [HRR.out.t.fb] at HFF
          have HEQ:Hid (A1 F a many (k+1)=Vw (Au (A1 F a many k) a k {st with at_:=sn}) a k (tn,tf,ti) (decide (p.st=2))):=by
           show Br (A1 F a many k) a k many=_
           rw [Yb HST.out HON.out HP.out,←HSN.out,if_neg hnl,HE1.out]
          clear hp7 ht7 hr7 ho2 hpl2 hnl hsm HK7 HFL HRR HST HPC2 HBT2 HRBK HRC HP HAT HV HO HON HE1 HOUT HWR HSN HFIN hfv
          go_wp2_with fail
          refine HFF.out.mono ?_
          rintro e w8 ⟨rfl,hft⟩
          have HNEXT:Hid (∃ own' G',Ik w0 w own G (A1 F a many (k+1)) (some ⟨pb,poff,none⟩) n cap a w8 own' G'):=by
           rw [HEQ.out]
           exact HW7.out.turn (Below.refl _ _) hft
          clear hft HFF HW7 HEQ p0 p1 t0 t1 t2 v0 v1
          go_wp2
          go_roundw
          case rel=> exact⟨k+1,by omega,by go_num,HNEXT⟩
          case measure=> (simp [intOf];try omega)
   ·obtain rfl:k=n:=by omega
    obtain⟨own',G',hr⟩:=HR.out
    have HFT:=Aa hr.t.ft
    clear hr HR
    go_wp2
    go_ret
    rw [HWM.out]
    refine⟨?_,HFT.out⟩
    show _=Ending.returned (Du 0)
    rw [A3]
    rfl
 ·have HWM:Hid (Cu F wk many=(5,F)):=by
   show _=_
   unfold Cu
   by_cases h0:wk < 0
   ·rw [if_pos h0]
   ·rw [if_neg h0,List.getElem?_eq_none (by omega)]
  have HS:=Aa (Agi wk h hw)
  rw [Ar (by decide)] at HS
  have HSAME:=Aa fun(w1:World) (hb:Below w.heap.size w w1)=> Bu.same h hb
  clear h hi hou hlg hw
  go_enter Tryz.func18,Tryz.ntmps18
  go_wp2_with fail
  refine HS.out.mono ?_
  rintro e w1 ⟨rfl,b1⟩
  have HB:=Aa (HSAME.out w1 b1)
  clear b1 HS HSAME
  go_wp2
  go_loopw [22] (fun iv wr=> iv= .int .i64 0∧wr=w1) (fun iv _=> 0)
  case atStart=> exact⟨by go_num,rfl⟩
  case round=>
   obtain⟨rfl,rfl⟩:=hrel
   go_wp2
   go_ret
   rw [HWM.out]
   refine⟨?_,HB.out⟩
   show _=Ending.returned (Du 5)
   rw [Ar (by decide)]
   rfl
end
end Go.Proofs.YtbibeionenjmfaaGreatDoor
namespace Go.Proofs.YtbibeionenjmfaaGreatDoor
open Go.RowKit
theorem Ak1 {rs:List Aw} {fold:Int} {many:Nat} {lines:List ByteArray} {k:Nat} (hr:rs.length≤4) (hl:lines.length≤60) (hs:∀ l∈lines,l.size≤120):(V0 rs fold many lines k).length≤36480:=by
 unfold V0 P7
 have h1:=List.length_filter_le (Bh many k) (Ae fold (Dz (Bf rs fold lines)))
 have h2:=D6 fold (Dz (Bf rs fold lines))
 rw [Fg] at h2
 have h3:=Jb rs fold hr lines (fun l hl=> Nat.le_trans (hs l hl) (by decide))
 omega
theorem InvC.mb {F:Ad} (h:InvC F):MB F:=fun t p hp=> by
 obtain⟨o,ho,hok⟩:=h.ok hp
 have hf:=h.Hl t.1 o ho
 have hm:=hok.many
 unfold G8 at hm
 split at hm
 ·have:=Ak1 (fold:=o.fold) (many:=o.slices) (k:=t.2.2) (Lo hf.ok).1.2 hf.lines hf.short
  omega
 ·have:=hf.size
  omega
theorem Aeu:∀ l:List As,(l.map uP).sum≤l.length
 | []=> Nat.le_refl _
 | p::l=> by
   have h1:=Aeu l
   have h2:uP p≤1:=by unfold uP;split <;> decide
   rw [List.map_cons,List.sum_cons,List.length_cons]
   omega
theorem De.few {nq:Nat} {o:Ba} (h:De nq o):uJ o≤64:=by
 have h1:=Aeu o.parts
 have h2:=Aeu o.Bw
 have h3:o.parts.length=(o.lines.length+o.size - 1) / o.size:=h.len false
 have h4:o.Bw.length=o.slices:=h.len true
 have h5:=(Lo h.ok).2.2.1
 have h6:(o.lines.length+o.size - 1) / o.size≤60:=by
  have hs:=h.size
  have hl:=h.lines
  refine Nat.le_of_lt_succ ((Nat.div_lt_iff_lt_mul (by omega)).2 ?_)
  have:60 * o.size+o.size=61 * o.size:=by omega
  show o.lines.length+o.size - 1 < 61 * o.size
  omega
 unfold uJ
 omega
theorem InvC.few {F:Ad} (h:InvC F):uF F.Af≤384:=by
 have hj:∀ o∈F.Af,uJ o≤64:=fun o ho=> by
  obtain⟨n,hn⟩:=List.mem_iff_getElem?.1 ho
  exact(h.Hl n o hn).few
 have hl:=h.jl
 have key:∀ l:List Ba,(∀ o∈l,uJ o≤64)→uF l≤l.length * 64:=fun l=> by
  induction l with
  | nil=> intro _;exact Nat.le_refl _
  | cons o l ih=>
    intro h1
    have h2:=ih (fun x hx=> h1 x (by simp [hx]))
    have h3:=h1 o (by simp)
    unfold uF at h2 ⊢
    rw [List.map_cons,List.sum_cons,List.length_cons,Nat.succ_mul]
    omega
 have:=key F.Af hj
 have:=Nat.mul_le_mul_right 64 hl
 omega
theorem Aag {F:Ad} (h:InvM F) (hc:∀ q∈F.Aj,0 < q.2):∀ o∈(Df F F.Ag.length 1000).Af,Ig o.Bw=true:=by
 have h1:=Amj h h.toInvC.mb 1000
 have h2:=h.toInvC.few
 exact h1.2.2.2.2 (by omega) hc
theorem Adf {F:Ad} (h:InvM F) (hc:∀ q∈F.Aj,0 < q.2) {n:Nat} {o:Ba} (ho:F.Af[n]?=some o):Po (Df F F.Ag.length 1000) (n:Int)=(o.out,0):=by
 have hk:=Akh F F.Ag.length 1000
 have hd:=Aag h hc
 have h1:(Dw (Df F F.Ag.length 1000))[n]?=(Dw F)[n]?:=by rw [hk]
 generalize Df F F.Ag.length 1000=G at *
 unfold Dw at h1
 rw [List.getElem?_map,List.getElem?_map,ho] at h1
 cases hg:G.Af[n]? with
 | none=> rw [hg] at h1;cases h1
 | some o'=>
   rw [hg] at h1
   have h2:Ys o'=Ys o:=Option.some.inj h1
   have h3:o'.out=o.out:=congrArg (fun k=> k.2.2.2.2.2.2.2.1) h2
   have h4:=(Z9 o'.Bw).2 (hd o' (List.mem_of_getElem? hg))
   unfold Po
   rw [if_neg (by omega),show((n:Int)).toNat=n by omega,hg]
   dsimp only
   rw [if_pos h4,h3]
end Go.Proofs.YtbibeionenjmfaaGreatDoor
namespace Go.Proofs.YtbibeionenjmfaaGreatDoor
open Go.RowKit
def Gw (F:Ad) (w:Int):Nat→Bool×Ad
 | 0=> (false,F)
 | k+1=> ((Gw F w k).1 || decide ((A4 (Gw F w k).2 w).1.2=0),(A4 (Gw F w k).2 w).2)
theorem Xs (F:Ad) (w:Nat):Fp F w=((Gw (Cu F w 1048576).2 w 3).1,(Cu (Gw (Cu F w 1048576).2 w 3).2 w 1048576).2):=by
 unfold Fp Gw Gw Gw Gw
 simp only [Bool.false_or]
theorem E8.Gw {F:Ad} {k:Nat} (h:E8 F k) (w:Int):∀ n,E8 (Gw F w n).2 k
 | 0=> h
 | n+1=> (E8.Gw h w n).offer w
section
variable {w0 w:World} {own:Nat→Ez} {G:Bg} {F:Ad}
set_option maxRecDepth 100000 in
set_option maxHeartbeats 4000000 in
theorem Ade {k0 m:Nat} (h:B8 w0 w own G F) (hi:E8 F k0) (hk0:k0≤1000) (hm:m≤4):
 Calls Tryz.prog 22 #[.pointer (some ⟨G.fb,0,none⟩), .int .i64 m] w fun e w'=> e= .returned (.tuple #[])∧Bu w0 w own G (Df F m 1000) w':=by
 have HR0:Hid (∃ F' own' G',Df F' m 1000=Df F m 1000∧E8 F' (k0+0 * 8)∧Cx w0 w own G F' w own' G'):=⟨F,own,G,rfl,hi,Cx.start h (Below.refl _ _)⟩
 clear h hi
 go_enter Tryz.func22,Tryz.ntmps22
 go_wp2
 go_loopw [4] (fun iv wr=> ∃ r:Nat,r≤1000∧iv= .int .i64 r∧Hid (∃ F' own' G',Df F' m (1000 - r)=Df F m 1000∧E8 F' (k0+r * 8)∧Cx w0 w own G F' wr own' G')) (fun iv _=> 1000 - (intOf iv).toNat)
 case atStart=> exact⟨0,by omega,by go_num,HR0⟩
 case round=>
  clear HR0
  obtain⟨r,hr,rfl,HR⟩:=hrel
  obtain⟨F',own',G',hfin,hfi,htu⟩:=HR.out
  clear HR
  by_cases hlt:r < 1000
  ·have e1:decide ((r:Int) < 1000)=true:=by simp;omega
   have e2:decide (r < 1000)=true:=by simp;omega
   have HFIN:=Aa hfin
   have HFI:=Aa hfi
   have HT0:Hid (∃ own2 G2,Cx w0 w own G (At F' 0).2 wr own2 G2):=⟨_,_,htu⟩
   clear hfin hfi htu
   go_wp2
   go_loopw [5,6] (fun sv iv wr=> ∃ n:Nat,n≤m∧iv= .int .i64 n∧(∃ sb,sv= .bool sb∧sb=(At F' n).1)∧Hid (∃ own2 G2,Cx w0 w own G (At F' n).2 wr own2 G2)) (fun _ iv _=> m - (intOf iv).toNat)
   case atStart=> exact⟨0,by omega,by go_num,⟨false,rfl,rfl⟩,HT0⟩
   case round=>
    clear HT0
    obtain⟨n,hn,rfl,⟨sb,rfl,hsb⟩,HT⟩:=hrel
    by_cases hlt2:n < m
    ·have e3:decide (n < m)=true:=by simp;omega
     have e4:decide ((n:Int) < (m:Int))=true:=by simp;omega
     obtain⟨own2,G2,ht2⟩:=HT.out
     have hfn:E8 (At F' n).2 (k0+r * 8+n * 2):=HFI.out.rounds n
     have hk:k0+r * 8+n * 2+1≤10000:=by omega
     have hwk:=Qb (n:Int) 1048576 ht2.fl hfn.toInvM hfn.R3 (hfn.lgk (by omega)) (by decide)
     rw [ht2.fb] at hwk
     have HWK:=Aa hwk
     have HT2:=Aa ht2
     have HFN:=Aa (hfn.work (n:Int) 1048576)
     have HSB:=Aa hsb
     have HRQ:Hid (At F' (n+1)=((At F' n).1 || (Fp (At F' n).2 n).1,(Fp (At F' n).2 n).2)):=rfl
     rw [Xs] at HRQ
     have HRQ2:=Aa HRQ.out
     generalize At F' n=q at *
     obtain⟨q1,F1⟩:=q
     dsimp only at HWK HT2 HFN HSB HRQ2
     clear hwk ht2 hfn hsb HT HRQ
     go_wp2_with fail
     refine HWK.out.mono ?_
     rintro e w2 ⟨rfl,hft⟩
     obtain⟨own3,G3,ht3,_,_⟩:=HT2.out.turn (Below.refl _ _) hft
     have HT3:Hid (∃ own3 G3,Cx w0 w own G (Gw (Cu F1 n 1048576).2 n 0).2 w2 own3 G3):=⟨own3,G3,ht3⟩
     clear hft ht3 HWK HT2
     go_wp2
     go_loopw [5,7] (fun sv iv wr=> ∃ j:Nat,j≤3∧iv= .int .i64 j∧(∃ tb,sv= .bool tb∧tb=(sb || (Gw (Cu F1 n 1048576).2 n j).1))∧Hid (∃ own3 G3,Cx w0 w own G (Gw (Cu F1 n 1048576).2 n j).2 wr own3 G3)) (fun _ iv _=> 3 - (intOf iv).toNat)
     case atStart=> exact⟨0,by omega,by go_num,⟨sb,rfl,by unfold Gw;simp⟩,HT3⟩
     case round=>
      clear HT3
      obtain⟨j,hj,rfl,⟨tb,rfl,htb⟩,HT4⟩:=hrel
      have HTB:=Aa htb
      clear htb
      by_cases hlt3:j < 3
      ·obtain⟨own4,G4,ht4⟩:=HT4.out
       have hf4:=HFN.out.Gw (n:Int) j
       have hof:=Tc (n:Int) ht4.fl hf4.toInvC
       rw [ht4.fb] at hof
       have HOF:=Aa hof
       have HT5:=Aa ht4
       have HOQ:Hid (Gw (Cu F1 n 1048576).2 n (j+1)=((Gw (Cu F1 n 1048576).2 n j).1 || decide ((A4 (Gw (Cu F1 n 1048576).2 n j).2 n).1.2=0),(A4 (Gw (Cu F1 n 1048576).2 n j).2 n).2)):=rfl
       generalize Gw (Cu F1 n 1048576).2 n j=z at *
       obtain⟨z1,F2⟩:=z
       dsimp only at HOF HT5 HTB HOQ
       generalize hoo:A4 F2 (n:Int)=oo at *
       obtain⟨⟨t,er⟩,F3⟩:=oo
       dsimp only at HOF HOQ
       unfold C9 at HOF
       obtain⟨t1,t2,t3⟩:=t
       dsimp only at HOF
       clear hof ht4 hf4 HT4 hoo
       have hstep:∀ (eb:Bool),(er=0↔eb=true)→Hid (∃ own3 G3,Cx w0 w own G F3 wr own3 G3)→True:=fun _ _ _=> trivial
       clear hstep
       by_cases h0:er=0
       ·subst h0
        rw [A3] at HOF
        have HNB:Hid (true=(sb || (Gw (Cu F1 n 1048576).2 n (j+1)).1)):=by show _=_;rw [HOQ.out];simp
        have HNF:Hid ((Gw (Cu F1 n 1048576).2 n (j+1)).2=F3):=by show _=_;rw [HOQ.out]
        clear HOQ HTB
        go_wp2_with fail
        refine HOF.out.mono ?_
        rintro e w5 ⟨rfl,hft⟩
        obtain⟨own5,G5,ht5,_,_⟩:=HT5.out.turn (Below.refl _ _) hft
        have HT6:Hid (∃ own3 G3,Cx w0 w own G (Gw (Cu F1 n 1048576).2 n (j+1)).2 (w5.alloc (.cells #[.int .i64 t1, .bool t2, .int .i64 t3] 33)) own3 G3):=⟨own5,G5,by rw [HNF.out];exact ht5.later (ba w5 _)⟩
        clear hft ht5 HOF HT5 HNF
        cases tb with
        | true=>
          go_wp2
          go_roundw
          case rel=> exact⟨j+1,by omega,by go_num,⟨_,rfl,HNB.out⟩,HT6⟩
          case measure=> (simp [intOf];try omega)
        | false=>
          go_wp2
          go_roundw
          case rel=> exact⟨j+1,by omega,by go_num,⟨_,rfl,HNB.out⟩,HT6⟩
          case measure=> (simp [intOf];try omega)
       ·rw [Ar h0] at HOF
        have HNB:Hid (tb=(sb || (Gw (Cu F1 n 1048576).2 n (j+1)).1)):=by show _=_;rw [HOQ.out,HTB.out];simp [h0]
        have HNF:Hid ((Gw (Cu F1 n 1048576).2 n (j+1)).2=F3):=by show _=_;rw [HOQ.out]
        clear HOQ HTB
        go_wp2_with fail
        refine HOF.out.mono ?_
        rintro e w5 ⟨rfl,hft⟩
        obtain⟨own5,G5,ht5,_,_⟩:=HT5.out.turn (Below.refl _ _) hft
        have HT6:Hid (∃ own3 G3,Cx w0 w own G (Gw (Cu F1 n 1048576).2 n (j+1)).2 (w5.alloc (.cells #[.int .i64 t1, .bool t2, .int .i64 t3] 33)) own3 G3):=⟨own5,G5,by rw [HNF.out];exact ht5.later (ba w5 _)⟩
        clear hft ht5 HOF HT5 HNF
        cases tb with
        | true=>
          go_wp2
          go_roundw
          case rel=> exact⟨j+1,by omega,by go_num,⟨_,rfl,HNB.out⟩,HT6⟩
          case measure=> (simp [intOf];try omega)
        | false=>
          go_wp2
          go_roundw
          case rel=> exact⟨j+1,by omega,by go_num,⟨_,rfl,HNB.out⟩,HT6⟩
          case measure=> (simp [intOf];try omega)
      ·obtain rfl:j=3:=by omega
       obtain⟨own4,G4,ht4⟩:=HT4.out
       have hf4:=HFN.out.Gw (n:Int) 3
       have hwk:=Qb (n:Int) 1048576 ht4.fl hf4.toInvM hf4.R3 (hf4.lgk (by omega)) (by decide)
       rw [ht4.fb] at hwk
       have HWK:=Aa hwk
       have HT5:=Aa ht4
       clear hwk ht4 hf4 HT4
       go_wp2_with fail
       refine HWK.out.mono ?_
       rintro e w5 ⟨rfl,hft⟩
       obtain⟨own5,G5,ht5,_,_⟩:=HT5.out.turn (Below.refl _ _) hft
       have HT6:Hid (∃ own3 G3,Cx w0 w own G (At F' (n+1)).2 w5 own3 G3):=⟨own5,G5,by rw [HRQ2.out];exact ht5⟩
       have HNB:Hid (tb=(At F' (n+1)).1):=by show _=_;rw [HRQ2.out,HTB.out,HSB.out]
       clear hft ht5 HWK HT5 HRQ2 HTB HSB
       go_wp2
       go_roundw
       case rel=> exact⟨n+1,by omega,by go_num,⟨tb,rfl,HNB.out⟩,HT6⟩
       case measure=> (simp [intOf];try omega)
    ·obtain rfl:n=m:=by omega
     obtain⟨own2,G2,ht2⟩:=HT.out
     have HFQ:Hid (Df F' n (1000 - r)=if (At F' n).1=true then Df (At F' n).2 n (1000 - (r+1)) else(At F' n).2):=by
      show _=_
      rw [show 1000 - r=(1000 - (r+1))+1 by omega]
      rfl
     have hfr:E8 (At F' n).2 (k0+(r+1) * 8):=(HFI.out.rounds n).mono (by omega)
     cases sb with
     | true=>
       have HNX:Hid (∃ F' own' G',Df F' n (1000 - (r+1))=Df F n 1000∧E8 F' (k0+(r+1) * 8)∧Cx w0 w own G F' wr own' G'):=⟨_,own2,G2,by rw [←HFIN.out,HFQ.out,if_pos hsb.symm],hfr,ht2⟩
       clear hfr ht2 HFQ hsb HT
       go_wp2
       go_roundw
       case rel=> exact⟨r+1,by omega,by go_num,HNX⟩
       case measure=> (simp [intOf];try omega)
     | false=>
       have HNX:Hid (Bu w0 w own G (Df F n 1000) wr):=by
        rw [←HFIN.out,HFQ.out,if_neg (by rw [←hsb];simp)]
        exact ht2.ft
       clear hfr ht2 HFQ hsb HT
       go_wp2
       exact bodyPost_ret (v:= .tuple #[]) (by simp [results,Tryz.results22,go_sem]) rfl ⟨rfl,HNX.out⟩
  ·obtain rfl:r=1000:=by omega
   have HFT:=Aa htu.ft
   have hq:Df F' m 0=F':=rfl
   have HQ:Hid (F'=Df F m 1000):=by show _=_;rw [←hq,←hfin]
   clear hfin hfi htu hq
   go_wp2
   refine bodyPost_end (results_none rfl _ _ _) rfl ⟨rfl,?_⟩
   rw [←HQ.out]
   exact HFT.out
end
end Go.Proofs.YtbibeionenjmfaaGreatDoor
namespace Go.Proofs.YtbibeionenjmfaaGreatDoor
open Go.RowKit
section
variable {w0 w w' W:World} {own own':Nat→Ez} {G:Bg} {F F':Ad}
theorem Ak3 {n:Nat} {o:Ba} (ho:F.Af[n]?=some o) (hd:Hj o.Bw=o.Bw.length):Po F (n:Int)=(o.out,0):=by
 unfold Po
 rw [if_neg (by omega),Int.toNat_natCast,ho]
 dsimp only
 rw [if_pos hd]
theorem Ak2 {n:Nat} {o:Ba} (ho:F.Af[n]?=some o) (hd:Hj o.Bw≠o.Bw.length):Po F (n:Int)=([],7):=by
 unfold Po
 rw [if_neg (by omega),Int.toNat_natCast,ho]
 dsimp only
 rw [if_neg hd]
theorem Ah7 {n:Int} (h:¬ (0≤n∧n < F.Af.length)):Po F n=([],5):=by
 unfold Po
 by_cases h0:n < 0
 ·rw [if_pos h0]
 ·rw [if_neg h0,List.getElem?_eq_none (by omega)]
theorem JOs.all {n:Nat} {g:Ec} {o:Ba} (h:JOs w0 w own n g o) (hl:o.out.length=o.slices) (hs:o.Bw.length=o.slices) (hd:Hj o.Bw=o.Bw.length):g.os=o.out:=by
 apply List.ext_getElem?
 intro i
 by_cases hi:i < o.slices
 ·have hp:o.Bw[i]?=some o.Bw[i]:=List.getElem?_eq_getElem (by omega)
  refine h.od i _ hp ?_
  have:=List.all_eq_true.1 ((Z9 o.Bw).1 hd) o.Bw[i] (List.getElem_mem (by omega))
  simpa using this
 ·rw [List.getElem?_eq_none (by rw [h.on_];omega),List.getElem?_eq_none (by rw [hl];omega)]
theorem Apt:∀ x,∀ u∈Cm x,u.oneCell'=true:=fun x u h=> by simp [Cm] at h;subst h;rfl
set_option maxRecDepth 100000 in
set_option maxHeartbeats 4000000 in
theorem Zs (n:Int) (h:B8 w0 w own G F) (hi:InvC F):
 Calls Tryz.prog 23 #[.pointer (some ⟨G.fb,0,none⟩), .int .i64 n] w fun e w'=> (∃ v,e= .returned (.tuple #[v,Du (Po F n).2])∧Own 1 Cm 9 w' w.heap.size v (Po F n).1)∧Below w.heap.size w w':=by
 by_cases hn:0≤n∧n < F.Af.length
 ·obtain⟨k,rfl⟩:∃ k:Nat,n=k:=⟨n.toNat,by omega⟩
  have ho:F.Af[k]?=some F.Af[k]:=List.getElem?_eq_getElem (by omega)
  obtain⟨o,hoo⟩:∃ o,o=F.Af[k]:=⟨_,rfl⟩
  rw [←hoo] at ho
  have HS:=Aa (Zt h ho)
  have hf:=hi.Hl k o ho
  obtain⟨g,gb,cap,hg,ej,cn,hjc,_⟩:=h.Rt ho
  have hnl:=(List.getElem?_eq_some_iff.1 ho).1
  have f1:(k:Int) < (F.Af.length:Int):=by omega
  have f2:k < F.Af.length:=hnl
  have cj:=h.bk.get (j:=3) rfl
  rw [ej] at cj
  have x7:=hjc.hd.bk.get (j:=7) rfl
  unfold Zd at HS
  obtain⟨db,hdb⟩:∃ db,decide (Hj o.Bw=o.Bw.length)=db:=⟨_,rfl⟩
  rw [hdb] at HS
  cases db with
  | false=>
    have HO:Hid (Po F (k:Int)=([],7)):=Ak2 ho (of_decide_eq_false hdb)
    clear ho hoo hf hg ej cn hjc hnl f1 f2 cj x7 hdb h hn hi
    go_enter Tryz.func23,Tryz.ntmps23
    go_wp2_with fail
    refine HS.out.mono ?_
    rintro e w1 ⟨rfl,b1⟩
    have HB:=Aa (b1.alloc b1.size (.cells #[.int .i64 o.queue, .int .i64 o.parts.length, .int .i64 (Hj o.parts:Nat), .int .i64 o.slices, .int .i64 (Hj o.Bw:Nat), .bool false] 25))
    have ht:Bk (w1.alloc (.cells #[.int .i64 o.queue, .int .i64 o.parts.length, .int .i64 (Hj o.parts:Nat), .int .i64 o.slices, .int .i64 (Hj o.Bw:Nat), .bool false] 25)) w1.heap.size [.int .i64 o.queue, .int .i64 o.parts.length, .int .i64 (Hj o.parts:Nat), .int .i64 o.slices, .int .i64 (Hj o.Bw:Nat), .bool false]:=Bk.new rfl
    have c5:=ht.get (j:=5) rfl
    clear b1 ht HS
    go_wp2
    go_ret2
    rw [HO.out]
    refine⟨⟨_,?_,Own.nil⟩,HB.out⟩
    rw [Ar (by decide)]
    rfl
  | true=>
    have hd:=of_decide_eq_true hdb
    have HO:Hid (Po F (k:Int)=(o.out,0)):=Ak3 ho hd
    have hos:=hjc.os.all hf.outs hf.Nq hd
    have HSL:=Aa (hjc.os.os.slc Cc)
    have hlen:g.os.length=o.slices:=hjc.os.on_
    rw [hos] at HSL hlen
    have hsl4:=hf.Afy
    have HOL:=Aa hlen
    obtain⟨i0,hi0,hz0,hz1,hz2⟩:=info_parts Aay
    have HLN:Hid (0+o.out.length≤1000000000):=by show _≤_;omega
    generalize o.out=out at *
    generalize hsn:o.slices=sn at *
    have HSN:=Aa hsn
    clear ho hoo hf hg ej hjc hnl hdb h hn hi hd hos hlen hsn
    go_enter Tryz.func23,Tryz.ntmps23
    go_wp2_with fail
    refine HS.out.mono ?_
    rintro e w1 ⟨rfl,b1⟩
    obtain⟨W2,hW2⟩:∃ W2,W2=w1.alloc (.cells #[.int .i64 o.queue, .int .i64 o.parts.length, .int .i64 (Hj o.parts:Nat), .int .i64 sn, .int .i64 (Hj o.Bw:Nat), .bool true] 25):=⟨_,rfl⟩
    have hb2:Below w1.heap.size w1 W2:=by rw [hW2];exact ba w1 _
    have ht:Bk W2 w1.heap.size [.int .i64 o.queue, .int .i64 o.parts.length, .int .i64 (Hj o.parts:Nat), .int .i64 sn, .int .i64 (Hj o.Bw:Nat), .bool true]:=by rw [hW2];exact Bk.new rfl
    have c5:=ht.get (j:=5) rfl
    have hb:=b1.trans (hb2.mono b1.size)
    have HB:=Aa hb
    have HSL2:=Aa (HSL.out.later hb (Nat.le_refl _))
    replace cj:=cell_later hb cj
    replace cn:=cell_later hb cn
    replace x7:=cell_later hb x7
    have HW2:=Aa hW2
    clear b1 hb2 ht hb hW2 HSL HS
    go_upto_region 4 with (fail)
    rw [←HW2.out]
    clear HW2
    rw [←HOL.out] at x7
    go_wp2_with (at_builtin;refine J9 Cc _ _ 39 i0 _ rfl rfl Tryz.underlying39 hi0 hz0 hz1 hz2 rfl (by decide) (by decide) (Own.nil (base:=W2.heap.size)) (Below.refl W2.heap.size W2) (Nat.le_refl _) out HLN.out rfl (some ⟨g.ob,0,none⟩) out.length _ rfl rfl (fun h=> by cases h) HSL2.out (Mt Apt) ?_)
    intro v3 w3 o3 b3 _ _
    obtain⟨va,vc,rfl⟩:=id o3.1
    have HO3:=Aa (o3.B6 HB.out.size)
    have HB3:=Aa (HB.out.trans (b3.mono HB.out.size))
    clear o3 b3 HSL2 cj cn x7 c5 HB
    go_wp2
    go_ret2
    rw [HO.out]
    refine⟨⟨_,?_,HO3.out⟩,HB3.out⟩
    rw [A3]
    rfl
 ·have HO:Hid (Po F n=([],5)):=Ah7 hn
  have HS:=Aa (Acs n h hn)
  unfold Up at HS
  rw [Ar (show(5:Int)≠0 by decide)] at HS
  clear h hi hn
  go_enter Tryz.func23,Tryz.ntmps23
  go_wp2_with fail
  refine HS.out.mono ?_
  rintro e w1 ⟨rfl,b1⟩
  have HB:=Aa (b1.alloc b1.size (.cells #[.int .i64 0, .int .i64 0, .int .i64 0, .int .i64 0, .int .i64 0, .bool false] 25))
  clear b1 HS
  go_wp2
  go_ret2
  rw [HO.out]
  refine⟨⟨_,?_,Own.nil⟩,HB.out⟩
  rw [Ar (by decide)]
  rfl
end
end Go.Proofs.YtbibeionenjmfaaGreatDoor
