/- The library's variables that the program's texts read; strconv and strings at this program, in one form. -/
import Derived.OwnWalk
import Derived.Test.YtbibeionenjmfaaGreatDoorZNumLaw
import Derived.Test.YtbibeionenjmfaaGreatDoorZTexts
import Derived.Lib.LaidTab
import Derived.LaidSub
import Derived.Lib.AppendIntMem
import Derived.Lib.AtoiErrMem
import Derived.Test.YtbibeionenjmfaaGreatDoorZBuild
set_option linter.unusedSimpArgs false
set_option linter.unusedVariables false
namespace Go.Proofs.YtbibeionenjmfaaGreatDoor
open Go.RowKit
theorem An0 (s:ByteArray) (k:Nat):tx (s.data.toList.take k)=s.extract 0 k:=by
 have e:(s.extract 0 k).data.toList=s.data.toList.take k:=by rw [Lib.extract_data];simp
 rw [←P2 (s.extract 0 k),e]
theorem Af4 (s:ByteArray) (k:Nat):tx (s.data.toList.drop k)=s.extract k s.size:=by
 have e:(s.extract k s.size).data.toList=s.data.toList.drop k:=by
  rw [Lib.extract_data,List.take_of_length_le]
  rw [List.length_drop,Fw];omega
 rw [←P2 (s.extract k s.size),e]
theorem wrap64_in {x:Int} (h0: -9223372036854775808≤x) (h1:x≤9223372036854775807):wrap64 x=x:=by unfold wrap64;omega
end Go.Proofs.YtbibeionenjmfaaGreatDoor
namespace Go.Proofs.YtbibeionenjmfaaGreatDoor
open Go.RowKit
theorem Anw {H:Type} {enc:TypeId×Value→H} {P:Program} {w:World} {base:Nat} {sp:Nat→Bool} {held:Bool} {fuel:Nat} {t:TypeId} {ms:Array (String×TypeId)} {cs:List Value} {d:DataW H} {ps:List MemPlace}
 (ht:P.underlying t=some (.interface ms)) (h:DataW.trod enc P w base sp held fuel t cs=some (d,ps)):(cs= [.nilIface]∧d= .nil)∨∃ u v,cs= [.iface u v]:=by
 cases fuel with
 | zero=> cases h
 | succ n=>
   unfold DataW.trod at h
   rw [ht] at h
   match cs with
   | []=> cases h
   | [c]=>
     cases c
     case nilIface=> left;exact⟨rfl,by injection h with h;injection h with h;exact h.symm⟩
     case iface u v=> right;exact⟨u,v,rfl⟩
     all_goals cases h
   | a::b::r=> cases a <;> cases h
structure GT (w:World):Prop where
 gm:GM w
 tab:Lib.TabIs Tryz.prog w "internal/strconv.uint64pow10" .u64 Lib.pow10Tab
structure GW (w:World):Prop extends GT w where
 es:∃ tp p,w.var? Tryz.prog "strconv.ErrSyntax"=some #[.iface tp p]
 er:∃ tp p,w.var? Tryz.prog "strconv.ErrRange"=some #[.iface tp p]
theorem Ns {w w':World} {B:Nat} {n:String} {c:Array Value} (h:w.var? Tryz.prog n=some c) (hb:Below B w w') (hB:w.heap.size≤B):w'.var? Tryz.prog n=some c:=by
 unfold World.var? at *
 cases hg:Program.globalNamed Tryz.prog n with
 | none=> simp [hg] at h
 | some g=>
   simp only [hg,Option.bind_some] at h ⊢
   have hlt:g < w.heap.size:=by
    rcases Nat.lt_or_ge g w.heap.size with h' | h'
    ·exact h'
    ·rw [Array.getElem?_eq_none h'] at h;simp at h
   rw [hb.block g (by omega)]
   exact h
theorem GW.later {w w':World} {B:Nat} (h:GW w) (hb:Below B w w') (hB:w.heap.size≤B):GW w':=by
 obtain⟨⟨a,b⟩,⟨c1,c2,c⟩,⟨d1,d2,d⟩⟩:=h
 exact⟨⟨a.later hb hB,Ns b hb hB⟩,⟨c1,c2,Ns c hb hB⟩,⟨d1,d2,Ns d hb hB⟩⟩
theorem GT.later {w w':World} {B:Nat} (h:GT w) (hb:Below B w w') (hB:w.heap.size≤B):GT w':=⟨h.gm.later hb hB,Ns h.tab hb hB⟩
instance Aqo {w:World}:Coe (GW w) (GT w):=⟨GW.toGT⟩
theorem X8 {w:World}:∀ {l:List (String×DataW Unit)} {ps:List MemPlace},DataW.LaidVars Tryz.prog w l ps→∀ n d,(n,d)∈l→
 ∃ g t cs fuel p,Program.globalNamed Tryz.prog n=some g∧(Tryz.prog.globals[g]?).map (·.type)=some t∧w.var? Tryz.prog n=some cs∧DataW.trod (fun _=> ()) Tryz.prog w 0 (fun _=> true) false fuel t cs.toList=some (d,p)
 | [],_,_,_,_,hm=> by cases hm
 | (n',d')::r,ps,h,n,d,hm=> by
   obtain⟨g,t,cs,fuel,p,q,h1,h2,h3,h4,h5,_⟩:=h
   rcases List.mem_cons.1 hm with e | e
   ·cases e
    exact⟨g,t,cs,fuel,p,h1,h2,h3,h4⟩
   ·exact X8 h5 n d e
theorem Afb {w:World} {l:List (String×DataW Unit)} (h:laidMet Tryz.prog l w) {n u:String} {d:DataW Unit} (hm:(n,DataW.iface u d)∈l) (ht:((Program.globalNamed Tryz.prog n).bind fun g=> Tryz.prog.globals[g]?).map (·.type)=some 29):
 ∃ tp p,w.var? Tryz.prog n=some #[.iface tp p]:=by
 obtain⟨g,t,cs,fuel,p,h1,h2,h3,h4⟩:=X8 h.choose_spec.1 _ _ hm
 rw [h1] at ht
 obtain rfl:t=29:=Option.some.inj (h2.symm.trans ht)
 rcases Anw Tryz.underlying29 h4 with ⟨_,e⟩ | ⟨u,v,e⟩
 ·cases e
 ·refine⟨u,v,?_⟩
  rw [h3]
  have:cs= #[Value.iface u v]:=by
   apply Array.ext'
   rw [e]
  rw [this]
theorem GW.of {w:World} {l:List (String×DataW Unit)} (hs:w.ShapedOpen Tryz.prog) (h:laidMetH Tryz.prog l w) (hp:(l.all fun x=> x.2.handleName?.isNone)=true)
 (h1:l.filter (fun x=> x.1 == "internal/strconv.uint64pow10")= [("internal/strconv.uint64pow10",Lib.tabData .u64 Lib.pow10Tab)])
 {u1 u2:String} {d1 d2:DataW Unit} (h2:("strconv.ErrSyntax",DataW.iface u1 d1)∈l) (h3:("strconv.ErrRange",DataW.iface u2 d2)∈l):GW w:=by
 rw [MakeChecks.laidMetH_plain _ _ _ hp] at h
 refine⟨⟨Tryz.Akn.s1_3 w hs,?_⟩,Afb h h2 (by kernel_rfl),Afb h h3 (by kernel_rfl)⟩
 have h4:=h.filter (fun x=> x.1 == "internal/strconv.uint64pow10")
 rw [h1] at h4
 exact Lib.tabIs_of_head (g:=3) (t:=297) (n:=20) (e:=276) (by kernel_rfl) (by kernel_rfl) Tryz.underlying297 Tryz.underlying276 (by kernel_rfl) (by kernel_rfl) h4
theorem Gc (n:Int) (w:World) (hg:GT w) (h0: -9223372036854775808≤n) (h1:n≤9223372036854775807):
 Calls Tryz.prog 88 #[.int .i64 n] w fun e w'=> e= .returned (.string (tx (Lib.itoa n)))∧Below w.heap.size w w':=by
 refine(Tryz.strconv_Itoa n h0 h1 w hg.tab).mono ?_
 rintro e w' ⟨rfl,k,os,rfl⟩
 exact⟨rfl,Lib.below_grow _ w (Nat.le_refl _) k os⟩
def Ci (l:List UInt8):Int:=match Lib.atoiAll l with
 | .ok v=> v
 | .range=> Lib.atoiSat l
 | _=> 0
def Mg (l:List UInt8):Bool:=match Lib.atoiAll l with
 | .ok _=> true
 | _=> false
def Zl (l:List UInt8) (w:World) (e:Ending) (w':World):Prop:=
 (∃ ev,e= .returned (.tuple #[.int .i64 (Ci l),ev])∧((Mg l=true∧ev= .nilIface)∨(Mg l=false∧∃ t v,ev= .iface t v)))∧Below w.heap.size w w'
theorem Tb (s:ByteArray) (w:World) (hg:GW w) (hs:s.size≤10000000):
 Calls Tryz.prog 114 #[.string s] w (Zl s.data.toList w):=by
 unfold Zl Ci Mg
 cases h:Lib.atoiAll s.data.toList
 ·refine(Tryz.strconv_Atoi_ok s (by omega) _ h w).mono ?_
  rintro e w' ⟨rfl,hw⟩
  refine⟨⟨_,rfl, .inl ⟨rfl,rfl⟩⟩,?_⟩
  rcases hw with rfl | ⟨t,rfl⟩
  ·exact Below.refl _ _
  ·exact Lib.bytesWorld_below _ _ _
 ·obtain⟨tp,p,hv⟩:=hg.es
  refine(Any.strconv_Atoi_syntax_var Tryz.Ue s (by omega) h tp p w hv).mono ?_
  rintro e w' ⟨N,rfl,_,_,hb⟩
  exact⟨⟨_,rfl, .inr ⟨rfl,_,_,rfl⟩⟩,hb⟩
 ·obtain⟨tp,p,hv⟩:=hg.er
  refine(Tryz.strconv_Atoi_range_var s (by omega) h tp p w hv).mono ?_
  rintro e w' ⟨N,rfl,_,_,hb⟩
  exact⟨⟨_,rfl, .inr ⟨rfl,_,_,rfl⟩⟩,hb⟩
theorem Sy (s:ByteArray) (c:UInt8) (w:World) (hg:GM w) (hs:s.size≤10000000):
 Calls Tryz.prog 113 #[.string s, .string ⟨#[c]⟩] w fun e w'=> e= .returned (.tuple #[.string (tx (cutAt c s.data.toList).1), .string (tx (cutAt c s.data.toList).2.1), .bool (cutAt c s.data.toList).2.2])∧Below w.heap.size w w':=by
 obtain⟨m,hm⟩:=hg
 refine(Tryz.strings_Cut s ⟨#[c]⟩ m w (by omega) hm).mono ?_
 rintro e w' ⟨rfl,n,rfl⟩
 refine⟨?_,below_drewN (Below.refl _ _) n⟩
 have e1:Lib.cut s.data.toList (⟨#[c]⟩:ByteArray).data.toList=cutAt c s.data.toList:=Aos c s.data.toList
 rw [e1]
 rfl
end Go.Proofs.YtbibeionenjmfaaGreatDoor
