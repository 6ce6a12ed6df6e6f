/- Pairs sorted by their keys, those of one key in their order: the plain law. -/
import Derived.WalkKit
import Derived.WalkSpells
import Derived.WalkLawsBesides
import Derived.BigGuardPart
import Derived.Deep.QuietTactic
import Derived.BigQuiet
import Derived.Laws.Bits128
set_option linter.unusedSimpArgs false
set_option linter.unusedVariables false
namespace Go.Proofs.YtbibeionenjmfaaGreatDoor
open Go.RowKit
theorem Se {k:IntKind} {a b:Int} (h:b=a):Ending.returned (.int k a)= .returned (.int k b):=by rw [h]
theorem J1 {a b:Bool} (h:b=a):Ending.returned (.bool a)= .returned (.bool b):=by rw [h]
theorem Aa {p:Prop} (h:p):Hid p:=h
def Sl {α:Type} (sz:Nat) (enc:α→List Value) (w:World) (ao:Option Addr) (l:List α):Prop:=
 0 < l.length→∃ b off,ao=some ⟨b,off,none⟩∧b < w.heap.size∧∀ i x j v,l[i]?=some x→(enc x)[j]?=some v→w.cell? ⟨b,off+i * sz+j,none⟩=some v
theorem Sl.nil {α:Type} {sz:Nat} {enc:α→List Value} {w:World} {ao:Option Addr}:Sl sz enc w ao []:=fun h=> absurd h (by simp)
theorem Sl.later {α:Type} {sz:Nat} {enc:α→List Value} {w w':World} {ao:Option Addr} {l:List α} {B:Nat} (h:Sl sz enc w ao l) (hb:Below B w w') (hB:w.heap.size≤B):Sl sz enc w' ao l:=by
 intro h0
 obtain⟨b,off,e,hlt,hc⟩:=h h0
 refine⟨b,off,e,by have:=hb.size;omega,fun i x j v hi hj=> ?_⟩
 rw [hb.cell (p:=⟨b,off+i * sz+j,none⟩) (by show b < B;omega)]
 exact hc i x j v hi hj
def Fj (n:Int):List Value:= [.int .i64 n]
def Gk (n:Bool):List Value:= [.bool n]
def Bx (q:Int×Int):List Value:= [.int .i64 q.1, .int .i64 q.2]
theorem Sl.int {w:World} {ao:Option Addr} {l:List Int} (h:Sl 1 Fj w ao l) {k:Nat} (hk:k < l.length):
 ∃ b off x,ao=some ⟨b,off,none⟩∧b < w.heap.size∧l[k]?=some x∧w.cell? ⟨b,off+k,none⟩=some (.int .i64 x):=by
 obtain⟨b,off,e,hlt,hc⟩:=h (by omega)
 refine⟨b,off,l[k],e,hlt,by simp [hk],?_⟩
 have:=hc k l[k] 0 _ (by simp [hk]) rfl
 simpa using this
theorem Sl.bool {w:World} {ao:Option Addr} {l:List Bool} (h:Sl 1 Gk w ao l) {k:Nat} (hk:k < l.length):
 ∃ b off x,ao=some ⟨b,off,none⟩∧b < w.heap.size∧l[k]?=some x∧w.cell? ⟨b,off+k,none⟩=some (.bool x):=by
 obtain⟨b,off,e,hlt,hc⟩:=h (by omega)
 refine⟨b,off,l[k],e,hlt,by simp [hk],?_⟩
 have:=hc k l[k] 0 _ (by simp [hk]) rfl
 simpa using this
theorem Sl.Ahq {w:World} {ao:Option Addr} {l:List (Int×Int)} (h:Sl 2 Bx w ao l) {k:Nat} (hk:k < l.length):
 ∃ b off x y,ao=some ⟨b,off,none⟩∧b < w.heap.size∧l[k]?=some (x,y)∧w.cell? ⟨b,off+k * 2,none⟩=some (.int .i64 x)∧w.cell? ⟨b,off+k * 2+1,none⟩=some (.int .i64 y):=by
 obtain⟨b,off,e,hlt,hc⟩:=h (by omega)
 refine⟨b,off,l[k].1,l[k].2,e,hlt,by simp [hk],?_,?_⟩
 ·have:=hc k l[k] 0 _ (by simp [hk]) rfl
  simpa using this
 ·have:=hc k l[k] 1 _ (by simp [hk]) rfl
  simpa using this
theorem H4 {α:Type} {sz:Nat} {enc:α→List Value} (hsz:∀ x,(enc x).length=sz):∀ {l:List α} {i:Nat} {x:α} {j:Nat} {v:Value},l[i]?=some x→(enc x)[j]?=some v→(l.flatMap enc)[i * sz+j]?=some v
 | [],i,x,j,v,h,_=> by simp at h
 | a::l,0,x,j,v,h,hj=> by
   have e:a=x:=by simpa using h
   subst e
   have hlt:j < (enc a).length:=by
    by_cases hc:j < (enc a).length
    ·exact hc
    ·simp [List.getElem?_eq_none (by omega:(enc a).length≤j)] at hj
   rw [List.flatMap_cons,Nat.zero_mul,Nat.zero_add,List.getElem?_append_left hlt];exact hj
 | a::l,i+1,x,j,v,h,hj=> by
   have h':l[i]?=some x:=by simpa using h
   rw [List.flatMap_cons,List.getElem?_append_right (by rw [hsz,Nat.succ_mul];omega),hsz]
   have:(i+1) * sz+j - sz=i * sz+j:=by rw [Nat.succ_mul];omega
   rw [this];exact H4 hsz h' hj
theorem Sl.block {α:Type} {sz:Nat} {enc:α→List Value} {w:World} {b:Nat} {cs:Array Value} {t:TypeId} {fr:Nat×Nat} {l:List α} (hsz:∀ x,(enc x).length=sz) (hb:w.heap[b]?=some (.cells cs t fr)) (hc:∀ (j:Nat) (v:Value),(l.flatMap enc)[j]?=some v→cs[j]?=some v):Sl sz enc w (some ⟨b,0,none⟩) l:=by
 intro _
 refine⟨b,0,rfl,(Array.getElem?_eq_some_iff.1 hb).1,fun i x j v hi hj=> ?_⟩
 have:=hc _ v (H4 hsz hi hj)
 simp [World.cell?,hb,this]
theorem Sl.lit {α:Type} {sz:Nat} {enc:α→List Value} {w:World} {b:Nat} {cs:Array Value} {t:TypeId} {fr:Nat×Nat} {l:List α} (hsz:∀ x,(enc x).length=sz) (hb:w.heap[b]?=some (.cells cs t fr)) (hc:cs.toList=l.flatMap enc):Sl sz enc w (some ⟨b,0,none⟩) l:=
 Sl.block hsz hb fun j v h=> by rw [←hc] at h;simpa using h
theorem B3 (w:World) (o:Obj):(w.alloc o).heap[w.heap.size]?=some o:=by
 show(w.heap.push o)[w.heap.size]?=_
 simp
theorem Kr {w:World} {b:Nat} {x:Obj} (o:Obj) (h:w.heap[b]?=some x):(w.alloc o).heap[b]?=some x:=by
 rw [Below.heap_alloc _ _ _ (Array.getElem?_eq_some_iff.1 h).1];exact h
theorem Pd {w:World} {o:Obj} {n:Nat} (h:n=w.heap.size):(w.alloc o).heap[n]?=some o:=by subst h;exact B3 w o
abbrev Pr:=ByteArray×Int
def Bt (p:Pr):List Value:= [.string p.1, .int .i64 p.2]
theorem Bn (p:Pr):(Bt p).length=2:=rfl
theorem Sl.pair {w:World} {ao:Option Addr} {l:List Pr} (h:Sl 2 Bt w ao l) {k:Nat} (hk:k < l.length):
 ∃ b off x y,ao=some ⟨b,off,none⟩∧b < w.heap.size∧l[k]?=some (x,y)∧w.cell? ⟨b,off+k * 2,none⟩=some (.string x)∧w.cell? ⟨b,off+k * 2+1,none⟩=some (.int .i64 y):=by
 obtain⟨b,off,e,hlt,hc⟩:=h (by omega)
 refine⟨b,off,l[k].1,l[k].2,e,hlt,by simp [hk],?_,?_⟩
 ·have:=hc k l[k] 0 _ (by simp [hk]) rfl
  simpa using this
 ·have:=hc k l[k] 1 _ (by simp [hk]) rfl
  simpa using this
theorem tl (s:ByteArray):s.toList=s.data.toList:=by cases s;rw [ByteArray.toList_mk]
theorem Dc {a b:ByteArray} (h:a.toList=b.toList):a=b:=by
 rw [tl,tl] at h
 cases a;cases b
 congr
 exact Array.toList_inj.1 h
theorem Ag3 {a b:ByteArray} (h:¬ a=b):(a.toList ==b.toList)=false:=by
 rw [beq_eq_false_iff_ne];exact fun e=> h (Dc e)
theorem Ag1 (a:ByteArray):(a.toList ==a.toList)=true:=by rw [beq_iff_eq]
theorem G0 {w:World} {a b:Addr} {v x:Value} (hc:w.cell? b=some x) (h:a≠b):(w.setCell a v).cell? b=some x:=by
 rw [World.cell?_setCell_other w a b v h];exact hc
theorem Z6 {w:World} {a:Addr} {v u:Value} (hc:w.cell? a=some u):(w.setCell a v).cell? a=some v:=World.cell?_setCell_same w a v hc
end Go.Proofs.YtbibeionenjmfaaGreatDoor
namespace Go.Proofs.YtbibeionenjmfaaGreatDoor
open Go.RowKit
theorem Ix:∀ x:List UInt8,Op.bytesLess x x=false
 | []=> rfl
 | a::x=> by simp [Op.bytesLess,Ix x]
theorem Aoc {a b:UInt8}:a=b↔a.toNat=b.toNat:=UInt8.toNat_inj.symm
theorem Yj (a b:UInt8) (x y:List UInt8):Op.bytesLess (a::x) (b::y)=true↔a.toNat < b.toNat∨a.toNat=b.toNat∧Op.bytesLess x y=true:=by
 simp only [Op.bytesLess,Bool.or_eq_true,decide_eq_true_eq,Bool.and_eq_true,beq_iff_eq,UInt8.lt_iff_toNat_lt,Aoc]
theorem Tn:∀ {x y z:List UInt8},Op.bytesLess x y=true→Op.bytesLess y z=true→Op.bytesLess x z=true
 | _, [],_,h,_=> by simp [Op.bytesLess] at h
 | _,_::_, [],_,h=> by simp [Op.bytesLess] at h
 | [],_::_,_::_,_,_=> rfl
 | a::x,b::y,c::z,h1,h2=> by
   rw [Yj] at *
   rcases h1 with h1 | ⟨h1,h3⟩
   ·rcases h2 with h2 | ⟨h2,_⟩
    ·left;omega
    ·left;omega
   ·rcases h2 with h2 | ⟨h2,h4⟩
    ·left;omega
    ·right;exact⟨by omega,Tn h3 h4⟩
theorem To:∀ (x y:List UInt8),Op.bytesLess x y=true∨x=y∨Op.bytesLess y x=true
 | [], []=> .inr (.inl rfl)
 | [],_::_=> .inl rfl
 | _::_, []=> .inr (.inr rfl)
 | a::x,b::y=> by
   rw [Yj,Yj,List.cons.injEq,Aoc]
   have:=To x y
   rcases Nat.lt_trichotomy a.toNat b.toNat with h | h | h
   ·exact .inl (.inl h)
   ·rcases this with h2 | h2 | h2
    ·exact .inl (.inr ⟨h,h2⟩)
    ·exact .inr (.inl ⟨h,h2⟩)
    ·exact .inr (.inr (.inr ⟨h.symm,h2⟩))
   ·exact .inr (.inr (.inl h))
theorem Ajm {x y:List UInt8} (h:Op.bytesLess x y=true):Op.bytesLess y x=false:=by
 cases h2:Op.bytesLess y x
 ·rfl
 ·have:=Tn h h2;rw [Ix] at this;cases this
def Cq (a b:Pr):Bool:=Op.bytesLess a.1.toList b.1.toList
theorem Ok (a:Pr):Cq a a=false:=Ix _
theorem Gs {a b c:Pr} (h:Cq a b=true) (h2:Cq b c=true):Cq a c=true:=Tn h h2
theorem Hs {a b:Pr} (h:Cq a b=true):Cq b a=false:=Ajm h
theorem Akm {a b:Pr} (h:Cq a b=false) (h2:Cq b a=false):a.1.toList=b.1.toList:=by
 rcases To a.1.toList b.1.toList with h3 | h3 | h3
 ·unfold Cq at h;rw [h3] at h;cases h
 ·exact h3
 ·unfold Cq at h2;rw [h3] at h2;cases h2
theorem Gr {a b c:Pr} (h:Cq b a=false) (h2:Cq c b=false):Cq c a=false:=by
 cases h3:Cq c a
 ·rfl
 ·cases h4:Cq a b
  ·have e:=Akm h4 h
   have:Cq c b=true:=by unfold Cq at *;rw [←e];exact h3
   rw [h2] at this;cases this
  ·have:=Gs h3 h4;rw [h2] at this;cases this
theorem S5 {a b c:Pr} (h:Cq a b=true) (h2:Cq c b=false):Cq a c=true:=by
 cases h3:Cq a c
 ·have:=Gr h2 h3
  rw [h] at this;cases this
 ·rfl
theorem Afl {a b c:Pr} (h:Cq b a=false) (h2:Cq b c=true):Cq a c=true:=by
 cases h3:Cq a c
 ·have:=Gr h3 h
  rw [h2] at this;cases this
 ·rfl
theorem Yt {a b:Pr} (h:Cq a b=true):¬ a.1.toList=b.1.toList:=by
 intro e;unfold Cq at h;rw [e,Ix] at h;cases h
def Bl (l:List Pr):Prop:=l.Pairwise fun a b=> Cq b a=false
def Rs (k:List UInt8) (p:Pr):Bool:=p.1.toList ==k
def B9 (l m:List Pr):Prop:=∀ k,l.filter (Rs k)=m.filter (Rs k)
theorem B9.refl (l:List Pr):B9 l l:=fun _=> rfl
theorem B9.symm {l m:List Pr} (h:B9 l m):B9 m l:=fun k=> (h k).symm
theorem B9.trans {l m n:List Pr} (h:B9 l m) (h2:B9 m n):B9 l n:=fun k=> (h k).trans (h2 k)
theorem B9.append {a b c d:List Pr} (h:B9 a b) (h2:B9 c d):B9 (a++c) (b++d):=fun k=> by rw [List.filter_append,List.filter_append,h k,h2 k]
theorem B9.nil {m:List Pr} (h:B9 [] m):m= []:=by
 cases m with
 | nil=> rfl
 | cons a m=>
   have:=h a.1.toList
   rw [List.filter_nil,List.filter_cons_of_pos (by simp [Rs])] at this
   cases this
theorem B9.cons {a:Pr} {l m:List Pr} (h:B9 (a::l) (a::m)):B9 l m:=by
 intro k
 have:=h k
 by_cases e:Rs k a=true
 ·rw [List.filter_cons_of_pos e,List.filter_cons_of_pos e] at this
  exact(List.cons.inj this).2
 ·rw [List.filter_cons_of_neg e,List.filter_cons_of_neg e] at this
  exact this
theorem B9.mem {l m:List Pr} (h:B9 l m) {x:Pr} (hx:x∈l):x∈m:=by
 have:x∈l.filter (Rs x.1.toList):=List.mem_filter.2 ⟨hx,by simp [Rs]⟩
 rw [h] at this
 exact(List.mem_filter.1 this).1
theorem N8:∀ {l m:List Pr},Bl l→Bl m→B9 l m→l=m
 | [],m,_,_,h=> h.nil.symm
 | a::l, [],_,_,h=> (h.symm.nil)
 | a::l,b::m,hl,hm,h=> by
   have ha:a∈b::m:=h.mem (List.mem_cons_self)
   have hb:b∈a::l:=h.symm.mem (List.mem_cons_self)
   have l1:=List.pairwise_cons.1 hl
   have m1:=List.pairwise_cons.1 hm
   have e:a.1.toList=b.1.toList:=by
    have c1:Cq b a=false:=by
     rcases List.mem_cons.1 hb with e | e
     ·rw [e];exact Ok _
     ·exact l1.1 b e
    have c2:Cq a b=false:=by
     rcases List.mem_cons.1 ha with e | e
     ·rw [e];exact Ok _
     ·exact m1.1 a e
    exact Akm c2 c1
   have hf:=h a.1.toList
   rw [List.filter_cons_of_pos (by simp [Rs]),List.filter_cons_of_pos (by simp [Rs,e])] at hf
   obtain rfl:=(List.cons.inj hf).1
   rw [N8 l1.2 m1.2 h.cons]
def ins (x:Pr):List Pr→List Pr
 | []=> [x]
 | y::l=> if Cq x y then x::y::l else y::ins x l
def Dz (l:List Pr):List Pr:=l.foldl (fun s x=> ins x s) []
theorem M3 (l:List Pr) (x:Pr):Dz (l++ [x])=ins x (Dz l):=by unfold Dz;rw [List.foldl_append];rfl
theorem Afp {x y:Pr}:∀ {l:List Pr},y∈ins x l↔y=x∨y∈l
 | []=> by simp [ins]
 | z::l=> by
   unfold ins
   split
   ·simp
   ·rw [List.mem_cons,Afp,List.mem_cons]
    constructor
    ·rintro(h | h | h)
     ·exact .inr (.inl h)
     ·exact .inl h
     ·exact .inr (.inr h)
    ·rintro(h | h | h)
     ·exact .inr (.inl h)
     ·exact .inl h
     ·exact .inr (.inr h)
theorem Aa1 {x:Pr}:∀ {l:List Pr},Bl l→Bl (ins x l)
 | [],_=> List.pairwise_singleton _ _
 | y::l,h=> by
   have h1:=List.pairwise_cons.1 h
   unfold ins
   split
   ·rename_i hx
    refine List.pairwise_cons.2 ⟨fun z hz=> ?_,h⟩
    rcases List.mem_cons.1 hz with e | e
    ·rw [e];exact Hs hx
    ·exact Gr (Hs hx) (h1.1 z e)
   ·rename_i hx
    refine List.pairwise_cons.2 ⟨fun z hz=> ?_,Aa1 h1.2⟩
    rcases Afp.1 hz with e | e
    ·rw [e];simpa using hx
    ·exact h1.1 z e
theorem Aa2 {x:Pr}:∀ {l:List Pr},Bl l→B9 (ins x l) (l++ [x])
 | [],_=> fun _=> rfl
 | y::l,h=> by
   have h1:=List.pairwise_cons.1 h
   unfold ins
   split
   ·rename_i hx
    intro k
    by_cases e:Rs k x=true
    ·have hn:∀ z∈y::l,Rs k z=false:=by
      intro z hz
      have:Cq x z=true:=by
       rcases List.mem_cons.1 hz with e | e
       ·rw [e];exact hx
       ·exact S5 hx (h1.1 z e)
      have:=Yt this
      simp only [Rs,beq_iff_eq] at e
      simp only [Rs,beq_eq_false_iff_ne]
      rw [←e];exact fun e=> this e.symm
     have:(y::l).filter (Rs k)= []:=List.filter_eq_nil_iff.2 (fun z hz=> by rw [hn z hz];simp)
     rw [List.filter_cons_of_pos e,List.filter_append,this,List.filter_cons_of_pos e]
     rfl
    ·rw [List.filter_cons_of_neg e,List.filter_append,List.filter_cons_of_neg e]
     simp
   ·intro k
    have:=Aa2 h1.2 k (x:=x)
    rw [List.cons_append]
    by_cases e:Rs k y=true
    ·rw [List.filter_cons_of_pos e,List.filter_cons_of_pos e,this]
    ·rw [List.filter_cons_of_neg e,List.filter_cons_of_neg e,this]
theorem Y8 {α:Type} {P:List α→Prop} (h0:P []) (hs:∀ l x,P l→P (l++ [x])) (l:List α):P l:=by
 have:∀ m:List α,P m.reverse:=by
  intro m
  induction m with
  | nil=> exact h0
  | cons x m ih=> rw [List.reverse_cons];exact hs _ _ ih
 simpa using this l.reverse
theorem Afz (l:List Pr):Bl (Dz l)∧B9 (Dz l) l:=by
 refine Y8 (P:=fun l=> Bl (Dz l)∧B9 (Dz l) l) ⟨List.Pairwise.nil,B9.refl _⟩ (fun l x ih=> ?_) l
 ·rw [M3]
  exact⟨Aa1 ih.1,(Aa2 ih.1).trans (ih.2.append (B9.refl _))⟩
theorem Ft (l:List Pr):Bl (Dz l):=(Afz l).1
theorem K7 (l:List Pr):B9 (Dz l) l:=(Afz l).2
theorem Q8 {l m:List Pr} (h:Bl m) (h2:B9 m l):m=Dz l:=N8 h (Ft l) (h2.trans (K7 l).symm)
theorem Zc {l:List Pr} (h:Bl l):Dz l=l:=(Q8 h (B9.refl l)).symm
theorem Afi (x:Pr):∀ l,(ins x l).length=l.length+1
 | []=> rfl
 | y::l=> by unfold ins;split <;> simp [Afi x l]
theorem Fg (l:List Pr):(Dz l).length=l.length:=by
 refine Y8 (P:=fun l=> (Dz l).length=l.length) rfl (fun l x ih=> ?_) l
 rw [M3,Afi,ih];simp
theorem Aa0 (x:Pr):∀ l,(ins x l).Perm (x::l)
 | []=> List.Perm.refl _
 | y::l=> by
   unfold ins;split
   ·exact List.Perm.refl _
   ·exact((Aa0 x l).cons y).trans (List.Perm.swap x y l)
theorem M1 (l:List Pr):(Dz l).Perm l:=by
 refine Y8 (P:=fun l=> (Dz l).Perm l) (List.Perm.refl _) (fun l x ih=> ?_) l
 ·rw [M3]
  exact((Aa0 x _).trans (ih.cons x)).trans (List.perm_append_singleton x l).symm
theorem Ph {x:Pr} {l:List Pr}:x∈Dz l↔x∈l:=(M1 l).mem_iff
theorem Bl.append {a b:List Pr}:Bl (a++b)↔Bl a∧Bl b∧∀ x∈a,∀ y∈b,Cq y x=false:=List.pairwise_append
theorem Bl.sub {a b:List Pr} (h:Bl b) (s:a.Sublist b):Bl a:=List.Pairwise.sublist s h
theorem Ado {x:Pr}:∀ {S1 S2:List Pr},(∀ y∈S1,Cq x y=false)→(∀ y∈S2,Cq x y=true)→ins x (S1++S2)=S1++x::S2
 | [], [],_,_=> rfl
 | [],y::S2,_,h=> by
   show ins x (y::S2)=x::y::S2
   unfold ins;rw [if_pos (h y (List.mem_cons_self))]
 | y::S1,S2,h1,h2=> by
   show ins x (y::(S1++S2))=y::(S1++x::S2)
   unfold ins
   rw [if_neg (by rw [h1 y (List.mem_cons_self)];simp),Ado (fun z hz=> h1 z (List.mem_cons_of_mem _ hz)) h2]
def Cb (l:List Pr) (a b:Nat):List Pr:=(l.drop a).take (b - a)
def Av (l:List Pr) (a b:Nat):List Pr:=l.take a++Dz (Cb l a b)++l.drop b
theorem Np (l:List Pr) {a b:Nat} (h:a≤b) (h2:b≤l.length):l=l.take a++Cb l a b++l.drop b:=by
 unfold Cb
 have:l.take a++(l.drop a).take (b - a)=l.take b:=by
  rw [show b=a+(b - a) by omega,List.take_add]
  congr 2 <;> omega
 rw [this,List.take_append_drop]
theorem Ff (l:List Pr) {a b:Nat} (h:a≤b) (h2:b≤l.length):(Cb l a b).length=b - a:=by
 unfold Cb;rw [List.length_take,List.length_drop];omega
theorem Ie (l:List Pr) {a b:Nat} (h:a≤b) (h2:b≤l.length):(Av l a b).length=l.length:=by
 unfold Av;rw [List.length_append,List.length_append,Fg,Ff l h h2,List.length_take,List.length_drop];omega
theorem Iu (l:List Pr) {a b:Nat} (h:a≤b) (h2:b≤l.length):B9 (Av l a b) l:=by
 have:B9 (l.take a++Dz (Cb l a b)++l.drop b) (l.take a++Cb l a b++l.drop b):=((B9.refl _).append (K7 _)).append (B9.refl _)
 rw [←Np l h h2] at this
 exact this
theorem Ot {A S B l:List Pr} {a b:Nat} (hl:l=A++S++B) (ha:A.length=a) (hb:A.length+S.length=b):Cb l a b=S∧l.take a=A∧l.drop b=B:=by
 subst hl ha hb
 refine⟨?_,?_,?_⟩
 ·unfold Cb;rw [List.append_assoc,List.drop_left,show A.length+S.length - A.length=S.length by omega,List.take_left]
 ·rw [List.append_assoc,List.take_left]
 ·rw [←List.length_append,List.drop_left]
theorem L4 {A S B l:List Pr} {a b:Nat} (hl:l=A++S++B) (ha:A.length=a) (hb:A.length+S.length=b):Av l a b=A++Dz S++B:=by
 obtain⟨h1,h2,h3⟩:=Ot hl ha hb
 unfold Av;rw [h1,h2,h3]
def swapAt (l:List Pr) (i j:Nat):List Pr:=match l[i]?,l[j]? with
 | some x,some y=> (l.set i y).set j x
 | _,_=> l
theorem Jj (l:List Pr) (i j:Nat):(swapAt l i j).length=l.length:=by unfold swapAt;split <;> simp
theorem Ra {l:List Pr} {i j:Nat} {x y:Pr} (hi:l[i]?=some x) (hj:l[j]?=some y):swapAt l i j=(l.set i y).set j x:=by unfold swapAt;rw [hi,hj]
theorem Ni {A B:List Pr} {x:Pr} {n:Nat} (h:A.length=n):(A++x::B)[n]?=some x:=by rw [List.getElem?_append_right (by omega)];simp [h]
theorem S8 {A B:List Pr} {x y:Pr} {n:Nat} (h:A.length=n):(A++x::B).set n y=A++y::B:=by rw [List.set_append_right _ _ (by omega)];simp [h]
theorem Ab5 {A M B:List Pr} {x y:Pr} {i j:Nat} (hi:A.length=i) (hj:A.length+1+M.length=j):swapAt (A++x::(M++y::B)) i j=A++y::(M++x::B):=by
 have e:∀ z:Pr,A++z::(M++y::B)=(A++z::M)++y::B:=by intro z;simp
 have hl:∀ z:Pr,(A++z::M).length=j:=by intro z;simp;omega
 rw [Ra (Ni hi) (by rw [e];exact Ni (hl x)),S8 hi,e,S8 (hl y)]
 simp
theorem Alg {A B:List Pr} {x y:Pr} {i j:Nat} (hi:A.length=i) (hj:i+1=j):swapAt (A++x::y::B) i j=A++y::x::B:=Ab5 (M:= []) hi (by simp;omega)
theorem X5 {A B:List Pr} {x y:Pr} {i j:Nat} (hi:A.length=i) (hj:i+1=j):swapAt (A++x::y::B) j i=A++y::x::B:=by
 have e:A++x::y::B=(A++ [x])++y::B:=by simp
 have hl:(A++ [x]).length=j:=by simp;omega
 rw [Ra (by rw [e];exact Ni hl) (Ni hi),e,S8 hl]
 rw [show(A++ [x])++x::B=A++x::(x::B) by simp,S8 hi]
def Io (l:List Pr) (a b:Nat):Nat→List Pr
 | 0=> l
 | i+1=> swapAt (Io l a b i) (a+i) (b+i)
theorem X4 (l:List Pr) (a b:Nat):∀ n,(Io l a b n).length=l.length
 | 0=> rfl
 | n+1=> by unfold Io;rw [Jj,X4 l a b n]
theorem Ab4 {A M B:List Pr} {a b:Nat}:∀ {n:Nat} {X Y X' Y':List Pr},X.length=n→Y.length=n→A.length=a→A.length+n+X'.length+M.length=b→X'.length=Y'.length→Io (A++(X++X')++M++(Y++Y')++B) a b n=A++(Y++X')++M++(X++Y')++B
 | 0,X,Y,X',Y',hx,hy,_,_,_=> by
   obtain rfl:=List.length_eq_zero_iff.1 hx
   obtain rfl:=List.length_eq_zero_iff.1 hy
   rfl
 | n+1,X,Y,X',Y',hx,hy,ha,hb,he=> by
   obtain⟨X1,x,rfl⟩:∃ X1 x,X=X1++ [x]:=⟨X.dropLast,X.getLast (by intro e;subst e;simp at hx),(List.dropLast_concat_getLast _).symm⟩
   obtain⟨Y1,y,rfl⟩:∃ Y1 y,Y=Y1++ [y]:=⟨Y.dropLast,Y.getLast (by intro e;subst e;simp at hy),(List.dropLast_concat_getLast _).symm⟩
   simp at hx hy
   have ih:=Ab4 (A:=A) (M:=M) (B:=B) (a:=a) (b:=b) (n:=n) (X:=X1) (Y:=Y1) (X':=x::X') (Y':=y::Y') hx hy ha (by simp;omega) (by simp [he])
   unfold Io
   rw [show A++(X1++ [x]++X')++M++(Y1++ [y]++Y')++B=A++(X1++x::X')++M++(Y1++y::Y')++B by simp,ih]
   have:=Ab5 (A:=A++Y1) (M:=X'++M++X1) (B:=Y'++B) (x:=x) (y:=y) (i:=a+n) (j:=b+n) (by simp;omega) (by simp;omega)
   simp only [List.append_assoc,List.cons_append,List.nil_append] at this ⊢
   exact this
theorem Rb {A X M Y B:List Pr} {a b n:Nat} (hx:X.length=n) (hy:Y.length=n) (ha:A.length=a) (hb:A.length+n+M.length=b):Io (A++X++M++Y++B) a b n=A++Y++M++X++B:=by
 have:=Ab4 (A:=A) (M:=M) (B:=B) (a:=a) (b:=b) (n:=n) (X:=X) (Y:=Y) (X':= []) (Y':= []) hx hy ha (by simp;omega) rfl
 simpa using this
def sink (l:List Pr) (lo:Nat):Nat→List Pr
 | 0=> l
 | j+1=> match l[j+1]?,l[j]? with
   | some x,some y=> if lo < j+1∧Cq x y=true then sink (swapAt l (j+1) j) lo j else l
   | _,_=> l
theorem Ab1 (lo:Nat):∀ (j:Nat) (l:List Pr),(sink l lo j).length=l.length
 | 0,l=> rfl
 | j+1,l=> by
   unfold sink
   split
   ·split
    ·rw [Ab1 lo j,Jj]
    ·rfl
   ·rfl
theorem Afx {A:List Pr} {x:Pr} {lo:Nat} (ha:A.length=lo):∀ {j:Nat} {S B:List Pr},A.length+S.length=j→Bl S→sink (A++S++x::B) lo j=A++ins x S++B
 | 0,S,B,hj,hr=> by
   obtain rfl:S= []:=List.length_eq_zero_iff.1 (by omega)
   unfold sink ins;simp
 | j+1,S,B,hj,hr=> by
   rcases List.eq_nil_or_concat S with rfl | ⟨S1,y,rfl⟩
   ·have hlo:¬ lo < j+1:=by simp at hj;omega
    unfold sink ins
    split
    ·rw [if_neg (fun h=> hlo h.1)];simp
    ·simp
   ·simp only [List.concat_eq_append] at *
    simp at hj
    have e:A++(S1++ [y])++x::B=(A++S1)++y::x::B:=by simp
    have hl:(A++S1).length=j:=by simp;omega
    have g1:((A++S1)++y::x::B)[j+1]?=some x:=by
     rw [show(A++S1)++y::x::B=(A++S1++ [y])++x::B by simp];exact Ni (by simp;omega)
    have g0:((A++S1)++y::x::B)[j]?=some y:=Ni hl
    have hr2:=List.pairwise_append.1 hr
    rw [e]
    unfold sink
    rw [g1,g0]
    simp only
    cases hk:Cq x y
    ·rw [if_neg (by simp)]
     have:ins x (S1++ [y])=S1++ [y]++ [x]:=by
      have:=Ado (x:=x) (S1:=S1++ [y]) (S2:= []) (fun z hz=> by
       rcases List.mem_append.1 hz with h | h
       ·exact Gr (hr2.2.2 z h y (by simp)) hk
       ·rw [List.mem_singleton.1 h];exact hk) (fun z hz=> by cases hz)
      simpa using this
     rw [this];simp
    ·rw [if_pos ⟨by omega,rfl⟩,X5 hl rfl,show(A++S1)++x::y::B=A++S1++x::(y::B) by rfl,Afx ha (by omega) hr2.1]
     have:ins x (S1++ [y])=ins x S1++ [y]:=by
      clear g0 g1 e hl hj hr
      obtain⟨hr1,_,hr3⟩:=hr2
      induction S1 with
      | nil=> show ins x (y:: [])=x::y:: [];unfold ins;rw [if_pos hk]
      | cons z S1 ih=>
        have h1:=List.pairwise_cons.1 hr1
        show ins x (z::(S1++ [y]))=_
        unfold ins
        split
        ·rfl
        ·rw [ih h1.2 (fun u hu=> hr3 u (List.mem_cons_of_mem _ hu))];rfl
     rw [this];simp
def Mm (l:List Pr) (a:Nat):Nat→List Pr
 | 0=> l
 | k+1=> sink (Mm l a k) a (a+1+k)
theorem Wz (l:List Pr) (a:Nat):∀ k,(Mm l a k).length=l.length
 | 0=> rfl
 | k+1=> by unfold Mm;rw [Ab1,Wz l a k]
theorem N7 (l:List Pr) {a b:Nat} (h:b≤a+1) (ha:a≤b) (h2:b≤l.length):Av l a b=l:=by
 have hs:=Np l ha h2
 have hl:=Ff l ha h2
 have:Dz (Cb l a b)=Cb l a b:=by
  rcases hS:Cb l a b with _ | ⟨x,_ | ⟨y,S⟩⟩
  ·rfl
  ·rfl
  ·rw [hS] at hl;simp at hl;omega
 unfold Av;rw [this];exact hs.symm
theorem Abz {l:List Pr} {a b:Nat} {x:Pr} (h:a≤b) (hx:l[b]?=some x):Cb l a (b+1)=Cb l a b++ [x]∧l.drop b=x::l.drop (b+1):=by
 have hlt:=(List.getElem?_eq_some_iff.1 hx).1
 have h3:l.drop b=x::l.drop (b+1):=by rw [List.drop_eq_getElem_cons hlt,(List.getElem?_eq_some_iff.1 hx).2]
 refine⟨?_,h3⟩
 unfold Cb
 rw [show b+1 - a=(b - a)+1 by omega,List.take_add]
 congr 1
 rw [List.drop_drop,show a+(b - a)=b by omega,h3]
 rfl
theorem Aaz (l:List Pr) (a:Nat):∀ k,a+1+k≤l.length→Mm l a k=Av l a (a+1+k)
 | 0,h=> by unfold Mm;rw [N7 l (by omega) (by omega) h]
 | k+1,h=> by
   obtain⟨x,hx⟩:∃ x,l[a+1+k]?=some x:=⟨l[a+1+k],by simp [show a+1+k < l.length by omega]⟩
   obtain⟨s1,s2⟩:=Abz (a:=a) (by omega) hx
   unfold Mm
   rw [Aaz l a k (by omega)]
   unfold Av
   rw [s2,Afx (A:=l.take a) (by simp;omega) (by rw [Fg,Ff l (by omega) (by omega)];simp;omega) (Ft _),show a+1+(k+1)=a+1+k+1 by omega,s1,M3]
def Vh (l:List Pr) (a:Nat):Nat→List Pr
 | 0=> l
 | k+1=> swapAt (Vh l a k) (a+k) (a+k+1)
theorem Ab8 (l:List Pr) (a:Nat):∀ k,(Vh l a k).length=l.length
 | 0=> rfl
 | k+1=> by unfold Vh;rw [Jj,Ab8 l a k]
theorem Af6 {A:List Pr} {x:Pr} {a:Nat} (ha:A.length=a):∀ {n:Nat} {R B:List Pr},R.length=n→Vh (A++x::(R++B)) a n=A++R++x::B
 | 0,R,B,h=> by
   obtain rfl:=List.length_eq_zero_iff.1 h
   unfold Vh;simp
 | n+1,R,B,h=> by
   obtain⟨R1,y,rfl⟩:∃ R1 y,R=R1++ [y]:=⟨R.dropLast,R.getLast (by intro e;subst e;simp at h),(List.dropLast_concat_getLast _).symm⟩
   simp at h
   unfold Vh
   rw [show A++x::(R1++ [y]++B)=A++x::(R1++(y::B)) by simp,Af6 ha h,Alg (by simp;omega) rfl]
   simp
def Hk (l:List Pr) (m:Nat):Nat→List Pr
 | 0=> l
 | k+1=> swapAt (Hk l m k) (m - k) (m - k - 1)
theorem Tv (l:List Pr) (a:Nat):∀ k,(Hk l a k).length=l.length
 | 0=> rfl
 | k+1=> by unfold Hk;rw [Jj,Tv l a k]
theorem Wp {A:List Pr} {x:Pr}:∀ {n m:Nat} {A S B:List Pr},S.length=n→A.length+n=m→Hk (A++S++x::B) m n=A++x::S++B
 | 0,m,A,S,B,h,hm=> by
   obtain rfl:=List.length_eq_zero_iff.1 h
   unfold Hk;simp
 | n+1,m,A,S,B,h,hm=> by
   cases S with
   | nil=> simp at h
   | cons y S=>
     simp at h
     unfold Hk
     rw [show A++y::S++x::B=(A++ [y])++S++x::B by simp,Wp (A:=A++ [y]) h (by simp;omega),show A++ [y]++x::S++B=A++y::x::(S++B) by simp,X5 (i:=m - n - 1) (j:=m - n) (by omega) (by omega)]
     simp
theorem Apd {x:Pr} {R1 R2:List Pr} (hr:Bl (R1++R2)) (h1:∀ y∈R1,Cq y x=true) (h2:∀ y∈R2,Cq y x=false):R1++x::R2=Dz (x::(R1++R2)):=by
 obtain⟨r1,r2,r3⟩:=Bl.append.1 hr
 refine Q8 (Bl.append.2 ⟨r1,List.pairwise_cons.2 ⟨h2,r2⟩,fun y hy z hz=> ?_⟩) ?_
 ·rcases List.mem_cons.1 hz with e | e
  ·rw [e];exact Hs (h1 y hy)
  ·exact r3 y hy z e
 ·intro k
  by_cases e:Rs k x=true
  ·have:R1.filter (Rs k)= []:=List.filter_eq_nil_iff.2 (fun z hz=> by
    have:=Yt (h1 z hz)
    simp only [Rs,beq_iff_eq] at e
    simp only [Rs,beq_iff_eq]
    rw [←e];exact this)
   rw [List.filter_append,this,List.filter_cons_of_pos e,List.filter_cons_of_pos e,List.filter_append,this]
   rfl
  ·rw [List.filter_append,List.filter_cons_of_neg e,List.filter_cons_of_neg e,List.filter_append]
theorem Alc {x:Pr} {L1 L2:List Pr} (hr:Bl (L1++L2)) (h1:∀ y∈L1,Cq x y=false) (h2:∀ y∈L2,Cq x y=true):L1++x::L2=Dz (L1++L2++ [x]):=by
 rw [M3,Zc hr,Ado h1 h2]
theorem Yy {L1 L2 R1 R2:List Pr} (hl:Bl (L1++L2)) (hr:Bl (R1++R2)) (h1:∀ x∈R1,∀ y∈L2,Cq x y=true) (h2:∀ x∈L1,∀ y∈R2,Cq y x=false):
 Dz (L1++R1)++Dz (L2++R2)=Dz (L1++L2++(R1++R2)):=by
 obtain⟨l1,l2,l3⟩:=Bl.append.1 hl
 obtain⟨r1,r2,r3⟩:=Bl.append.1 hr
 refine Q8 (Bl.append.2 ⟨Ft _,Ft _,fun x hx y hy=> ?_⟩) ?_
 ·rw [Ph,List.mem_append] at hx hy
  rcases hx with hx | hx
  ·rcases hy with hy | hy
   ·exact l3 x hx y hy
   ·exact h2 x hx y hy
  ·rcases hy with hy | hy
   ·exact Hs (h1 x hx y hy)
   ·exact r3 x hx y hy
 ·refine((K7 _).append (K7 _)).trans fun k=> ?_
  simp only [List.filter_append,List.append_assoc]
  congr 1
  rw [←List.append_assoc,←List.append_assoc]
  congr 1
  by_cases e:R1.filter (Rs k)= []
  ·rw [e];simp
  ·have:L2.filter (Rs k)= []:=List.filter_eq_nil_iff.2 (fun z hz hk=> by
    obtain⟨u,hu⟩:=List.exists_mem_of_ne_nil _ e
    obtain⟨hu1,hu2⟩:=List.mem_filter.1 hu
    have:=Yt (h1 u hu1 z hz)
    simp only [Rs,beq_iff_eq] at hk hu2
    rw [hk,hu2] at this
    exact this rfl)
   rw [this];simp
end Go.Proofs.YtbibeionenjmfaaGreatDoor
