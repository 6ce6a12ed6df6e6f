/- Pairs: Check, KeySum, SliceOf, number; what the readers' steps say (plain). -/
import Derived.Test.YtgeedjlbajmdkaaGreatDoorNum
import Derived.Test.YtgeedjlbajmdkaaGreatDoorWords
import Derived.Test.YtgeedjlbajmdkaaGreatDoorErr
import Derived.Test.YtgeedjlbajmdkaaGreatDoorBuild
import Derived.Lib.LaidTab
import Derived.LaidSub
import Derived.Lib.ItoaMem
import Derived.Lib.AppendIntMem
import Derived.Lib.AtoiErrMem
import Derived.Test.YtgeedjlbajmdkaaGreatDoorPairSum
import Derived.Test.YtgeedjlbajmdkaaGreatDoorPairs
set_option linter.unusedSimpArgs false
set_option linter.unusedVariables false
/- The text of pairs, and how it is read (no program). -/
namespace Go.Proofs.YtgeedjlbajmdkaaGreatDoor
open Go.RowKit

def lineP (p : Pr) : List UInt8 := Lib.itoa p.1.size ++ 58 :: (p.1.data.toList ++ 32 :: (Lib.itoa p.2 ++ [10]))
def textP (l : List Pr) : List UInt8 := l.flatMap lineP
/-- a key, and what is behind the blank behind it -/
def headP (s : List UInt8) : Option (List UInt8 × List UInt8) :=
  match numS (cutAt 58 s).1 with
  | none => none
  | some n => if (cutAt 58 s).2.2 = true ∧ 0 ≤ n ∧ n < (cutAt 58 s).2.1.length ∧ (cutAt 58 s).2.1[n.toNat]? = some 32 then some ((cutAt 58 s).2.1.take n.toNat, (cutAt 58 s).2.1.drop (n.toNat + 1)) else none
def valP (r : List UInt8) : Option (Int × List UInt8) :=
  match numS (cutAt 10 r).1 with
  | none => none
  | some v => if (cutAt 10 r).2.2 = true then some (v, (cutAt 10 r).2.1) else none
def oneP (s : List UInt8) : Option (Pr × List UInt8) :=
  match headP s with
  | none => none
  | some (k, r) => match valP r with
    | none => none
    | some (v, m) => some ((tx k, v), m)
theorem cutAt_len (c : UInt8) (s : List UInt8) : (cutAt c s).1.length + (cutAt c s).2.1.length ≤ s.length ∧ ((cutAt c s).2.2 = true → (cutAt c s).1.length + (cutAt c s).2.1.length + 1 = s.length) := by
  rcases first_of c s with h | ⟨A, B, rfl, h⟩
  · rw [cutAt_no h]; simp
  · rw [cutAt_yes h]; simp; omega
theorem headP_some {s k r : List UInt8} (h : headP s = some (k, r)) : k.length + r.length + 1 < s.length := by
  unfold headP at h
  split at h
  · cases h
  · next n hn =>
    split at h
    · next hc =>
      obtain ⟨h1, h2, h3, _⟩ := hc
      injection h with h
      injection h with ha hb
      have := (cutAt_len 58 s).2 h1
      rw [← ha, ← hb, List.length_take, List.length_drop]
      omega
    · cases h
theorem valP_some {r m : List UInt8} {v : Int} (h : valP r = some (v, m)) : m.length < r.length ∧ -9223372036854775808 ≤ v ∧ v ≤ 9223372036854775807 := by
  unfold valP at h
  split at h
  · cases h
  · next u hu =>
    split at h
    · next hc =>
      injection h with h
      injection h with ha hb
      have := (cutAt_len 10 r).2 hc
      have h3 := (num_iff.1 hu).1
      rw [← hb, ← ha]
      exact ⟨by omega, h3⟩
    · cases h
theorem oneP_some {s m : List UInt8} {p : Pr} (h : oneP s = some (p, m)) : m.length + p.1.size + 2 < s.length ∧ -9223372036854775808 ≤ p.2 ∧ p.2 ≤ 9223372036854775807 := by
  unfold oneP at h
  split at h
  · cases h
  · next k r hk =>
    split at h
    · cases h
    · next v m' hv =>
      injection h with h
      injection h with ha hb
      have h1 := headP_some hk
      have h2 := valP_some hv
      rw [← ha, ← hb, tx_size]
      exact ⟨by omega, h2.2⟩
def parseF : Nat → List UInt8 → Option (List Pr)
  | 0, s => if s = [] then some [] else none
  | n + 1, s => if s = [] then some [] else match oneP s with
    | none => none
    | some (p, m) => (parseF n m).map (p :: ·)
theorem parseF_more : ∀ (n m : Nat) (s : List UInt8), s.length ≤ n → s.length ≤ m → parseF n s = parseF m s
  | 0, 0, s, _, _ => rfl
  | 0, m + 1, s, h, _ => by
    obtain rfl : s = [] := List.length_eq_zero_iff.1 (by omega)
    simp [parseF]
  | n + 1, 0, s, _, h => by
    obtain rfl : s = [] := List.length_eq_zero_iff.1 (by omega)
    simp [parseF]
  | n + 1, m + 1, s, h, h2 => by
    simp only [parseF]
    by_cases hs : s = []
    · rw [if_pos hs, if_pos hs]
    · rw [if_neg hs, if_neg hs]
      cases ho : oneP s with
      | none => rfl
      | some pm =>
        obtain ⟨p, r⟩ := pm
        have := (oneP_some ho).1
        simp only
        rw [parseF_more n m r (by omega) (by omega)]
def parseP (s : List UInt8) : Option (List Pr) := parseF s.length s
theorem parseP_nil : parseP [] = some [] := rfl
theorem parseP_none {s : List UInt8} (hs : s ≠ []) (h : oneP s = none) : parseP s = none := by
  unfold parseP
  obtain ⟨n, hn⟩ : ∃ n, s.length = n + 1 := ⟨s.length - 1, by have := List.length_pos_iff.2 hs; omega⟩
  rw [hn]
  simp only [parseF]
  rw [if_neg hs, h]
theorem parseP_some {s m : List UInt8} {p : Pr} (h : oneP s = some (p, m)) : parseP s = (parseP m).map (p :: ·) := by
  have h1 := (oneP_some h).1
  have hs : s ≠ [] := fun e => by rw [e] at h1; simp at h1
  unfold parseP
  obtain ⟨n, hn⟩ : ∃ n, s.length = n + 1 := ⟨s.length - 1, by have := List.length_pos_iff.2 hs; omega⟩
  rw [hn]
  simp only [parseF]
  rw [if_neg hs, h]
  simp only
  rw [parseF_more n m.length m (by omega) (Nat.le_refl _)]
/-- what is read is no more than its text has signs -/
theorem parseP_le : ∀ (n : Nat) (s : List UInt8) (l : List Pr), s.length ≤ n → parseP s = some l → l.length ≤ s.length ∧ ∀ p ∈ l, p.1.size ≤ s.length ∧ -9223372036854775808 ≤ p.2 ∧ p.2 ≤ 9223372036854775807 := by
  intro n
  induction n with
  | zero =>
    intro s l hs h
    obtain rfl : s = [] := List.length_eq_zero_iff.1 (by omega)
    rw [parseP_nil] at h; injection h with h; subst h
    exact ⟨Nat.le_refl _, fun p hp => by cases hp⟩
  | succ n ih =>
    intro s l hs h
    by_cases h0 : s = []
    · subst h0
      rw [parseP_nil] at h; injection h with h; subst h
      exact ⟨Nat.le_refl _, fun p hp => by cases hp⟩
    · cases ho : oneP s with
      | none => rw [parseP_none h0 ho] at h; cases h
      | some pm =>
        obtain ⟨p, m⟩ := pm
        have h1 := oneP_some ho
        rw [parseP_some ho] at h
        cases hm : parseP m with
        | none => rw [hm] at h; cases h
        | some q =>
          rw [hm] at h
          injection h with h
          subst h
          obtain ⟨a, b⟩ := ih m q (by omega) hm
          refine ⟨by simp only [List.length_cons]; omega, fun x hx => ?_⟩
          rcases List.mem_cons.1 hx with rfl | hx
          · exact ⟨by omega, h1.2⟩
          · obtain ⟨c, d⟩ := b x hx
            exact ⟨by omega, d⟩
/-- no sign other than digits and '-' -/
theorem itoa_not {v : Int} {c : UInt8} (h45 : c ≠ 45) (hd : isDig c = false) : c ∉ Lib.itoa v := by
  intro hc
  unfold Lib.itoa at hc
  split at hc
  · rcases List.mem_cons.1 hc with rfl | hc
    · exact h45 rfl
    · have := (dec_dig v.natAbs).1 c hc
      rw [hd] at this; cases this
  · have := (dec_dig v.toNat).1 c hc
    rw [hd] at this; cases this
theorem oneP_line (p : Pr) (r : List UInt8) (hk : p.1.size ≤ 9223372036854775807) (hv : -9223372036854775808 ≤ p.2 ∧ p.2 ≤ 9223372036854775807) : oneP (lineP p ++ r) = some (p, r) := by
  obtain ⟨k, v⟩ := p
  replace hk : k.size ≤ 9223372036854775807 := hk
  replace hv : -9223372036854775808 ≤ v ∧ v ≤ 9223372036854775807 := hv
  have e1 : lineP (k, v) ++ r = Lib.itoa k.size ++ 58 :: (k.data.toList ++ 32 :: (Lib.itoa v ++ 10 :: r)) := by simp [lineP]
  have hks : k.data.toList.length = k.size := Array.length_toList
  have hh : headP (lineP (k, v) ++ r) = some (k.data.toList, Lib.itoa v ++ 10 :: r) := by
    unfold headP
    rw [e1, cutAt_yes (itoa_not (by decide) (by decide)), num_iff.2 ⟨⟨by omega, by omega⟩, rfl⟩]
    simp only
    have e2 : k.data.toList ++ 32 :: (Lib.itoa v ++ 10 :: r) = (k.data.toList ++ [32]) ++ (Lib.itoa v ++ 10 :: r) := by simp
    have e3 : (k.data.toList ++ 32 :: (Lib.itoa v ++ 10 :: r))[((k.size : Nat) : Int).toNat]? = some 32 := by
      rw [Int.toNat_natCast, List.getElem?_append_right (by omega), hks, Nat.sub_self]; rfl
    have e4 : ((k.size : Nat) : Int) < ((k.data.toList ++ 32 :: (Lib.itoa v ++ 10 :: r)).length : Int) := by
      rw [List.length_append, List.length_cons, hks]; omega
    rw [if_pos ⟨trivial, by omega, e4, e3⟩, Int.toNat_natCast]
    congr 2
    · rw [← hks, List.take_left]
    · rw [e2, List.drop_left' (by simp [hks])]
  have hvv : valP (Lib.itoa v ++ 10 :: r) = some (v, r) := by
    unfold valP
    rw [cutAt_yes (itoa_not (by decide) (by decide)), num_iff.2 ⟨hv, rfl⟩]
    rfl
  unfold oneP
  rw [hh]
  simp only
  rw [hvv]
  simp only
  rw [tx_of]
/-- what is written is read -/
theorem parse_text : ∀ (l : List Pr), (∀ p ∈ l, p.1.size ≤ 9223372036854775807 ∧ -9223372036854775808 ≤ p.2 ∧ p.2 ≤ 9223372036854775807) → parseP (textP l) = some l
  | [], _ => rfl
  | p :: l, h => by
    have hp := h p (List.mem_cons_self ..)
    have e : textP (p :: l) = lineP p ++ textP l := rfl
    rw [e, parseP_some (oneP_line p (textP l) hp.1 hp.2), parse_text l fun x hx => h x (List.mem_cons_of_mem _ hx)]
    rfl
end Go.Proofs.YtgeedjlbajmdkaaGreatDoor
/- The library's variables that the program's texts read; strconv and strings at this program, in one form. -/
namespace Go.Proofs.YtgeedjlbajmdkaaGreatDoor
open Go.RowKit

theorem trod_if {H : Type} {enc : TypeId × Value → H} {P : Program} {w : World} {base : Nat} {sp : Nat → Bool} {held : Bool} {fuel : Nat} {t : TypeId} {ms : Array (String × TypeId)} {cs : List Value} {d : DataW H} {ps : List MemPlace}
    (ht : P.underlying t = some (.interface ms)) (h : DataW.trod enc P w base sp held fuel t cs = some (d, ps)) : (cs = [.nilIface] ∧ d = .nil) ∨ ∃ u v, cs = [.iface u v] := by
  cases fuel with
  | zero => cases h
  | succ n =>
    unfold DataW.trod at h
    rw [ht] at h
    match cs with
    | [] => cases h
    | [c] =>
      cases c
      case nilIface => left; exact ⟨rfl, by injection h with h; injection h with h; exact h.symm⟩
      case iface u v => right; exact ⟨u, v, rfl⟩
      all_goals cases h
    | a :: b :: r => cases a <;> cases h
/-- what the library's variables hold: of those that write numbers -/
structure GT (w : World) : Prop where
  gm : GM w
  tab : Lib.TabIs Tryz.prog w "internal/strconv.uint64pow10" .u64 Lib.pow10Tab
/-- and of those that read them -/
structure GW (w : World) : Prop extends GT w where
  es : ∃ tp p, w.var? Tryz.prog "strconv.ErrSyntax" = some #[.iface tp p]
  er : ∃ tp p, w.var? Tryz.prog "strconv.ErrRange" = some #[.iface tp p]
theorem var_later {w w' : World} {B : Nat} {n : String} {c : Array Value} (h : w.var? Tryz.prog n = some c) (hb : Below B w w') (hB : w.heap.size ≤ B) : w'.var? Tryz.prog n = some c := by
  unfold World.var? at *
  cases hg : Program.globalNamed Tryz.prog n with
  | none => simp [hg] at h
  | some g =>
    simp only [hg, Option.bind_some] at h ⊢
    have hlt : g < w.heap.size := by
      rcases Nat.lt_or_ge g w.heap.size with h' | h'
      · exact h'
      · rw [Array.getElem?_eq_none h'] at h; simp at h
    rw [hb.block g (by omega)]
    exact h
theorem GW.later {w w' : World} {B : Nat} (h : GW w) (hb : Below B w w') (hB : w.heap.size ≤ B) : GW w' := by
  obtain ⟨⟨a, b⟩, ⟨c1, c2, c⟩, ⟨d1, d2, d⟩⟩ := h
  exact ⟨⟨a.later hb hB, var_later b hb hB⟩, ⟨c1, c2, var_later c hb hB⟩, ⟨d1, d2, var_later d hb hB⟩⟩
theorem GT.later {w w' : World} {B : Nat} (h : GT w) (hb : Below B w w') (hB : w.heap.size ≤ B) : GT w' := ⟨h.gm.later hb hB, var_later h.tab hb hB⟩
instance gwgt {w : World} : Coe (GW w) (GT w) := ⟨GW.toGT⟩
theorem vars_read {w : World} : ∀ {l : List (String × DataW Unit)} {ps : List MemPlace}, DataW.LaidVars Tryz.prog w l ps → ∀ n d, (n, d) ∈ l →
    ∃ g t cs fuel p, Program.globalNamed Tryz.prog n = some g ∧ (Tryz.prog.globals[g]?).map (·.type) = some t ∧ w.var? Tryz.prog n = some cs ∧ DataW.trod (fun _ => ()) Tryz.prog w 0 (fun _ => true) false fuel t cs.toList = some (d, p)
  | [], _, _, _, _, hm => by cases hm
  | (n', d') :: r, ps, h, n, d, hm => by
    obtain ⟨g, t, cs, fuel, p, q, h1, h2, h3, h4, h5, _⟩ := h
    rcases List.mem_cons.1 hm with e | e
    · cases e
      exact ⟨g, t, cs, fuel, p, h1, h2, h3, h4⟩
    · exact vars_read h5 n d e
theorem err_var {w : World} {l : List (String × DataW Unit)} (h : laidMet Tryz.prog l w) {n u : String} {d : DataW Unit} (hm : (n, DataW.iface u d) ∈ l) (ht : ((Program.globalNamed Tryz.prog n).bind fun g => Tryz.prog.globals[g]?).map (·.type) = some 30) :
    ∃ tp p, w.var? Tryz.prog n = some #[.iface tp p] := by
  obtain ⟨g, t, cs, fuel, p, h1, h2, h3, h4⟩ := vars_read h.choose_spec.1 _ _ hm
  rw [h1] at ht
  obtain rfl : t = 30 := Option.some.inj (h2.symm.trans ht)
  rcases trod_if Tryz.underlying30 h4 with ⟨_, e⟩ | ⟨u, v, e⟩
  · cases e
  · refine ⟨u, v, ?_⟩
    rw [h3]
    have : cs = #[Value.iface u v] := by
      apply Array.ext'
      rw [e]
    rw [this]
theorem GW.of {w : World} {l : List (String × DataW Unit)} (hs : w.ShapedOpen Tryz.prog) (h : laidMetH Tryz.prog l w) (hp : (l.all fun x => x.2.handleName?.isNone) = true)
    (h1 : l.filter (fun x => x.1 == "internal/strconv.uint64pow10") = [("internal/strconv.uint64pow10", Lib.tabData .u64 Lib.pow10Tab)])
    {u1 u2 : String} {d1 d2 : DataW Unit} (h2 : ("strconv.ErrSyntax", DataW.iface u1 d1) ∈ l) (h3 : ("strconv.ErrRange", DataW.iface u2 d2) ∈ l) : GW w := by
  rw [MakeChecks.laidMetH_plain _ _ _ hp] at h
  refine ⟨⟨Tryz.laysM146.s1_3 w hs, ?_⟩, err_var h h2 (by kernel_rfl), err_var h h3 (by kernel_rfl)⟩
  have h4 := h.filter (fun x => x.1 == "internal/strconv.uint64pow10")
  rw [h1] at h4
  exact Lib.tabIs_of_head (g := 3) (t := 191) (n := 20) (e := 170) (by kernel_rfl) (by kernel_rfl) Tryz.underlying191 Tryz.underlying170 (by kernel_rfl) (by kernel_rfl) h4
theorem GT.of {w : World} {l : List (String × DataW Unit)} (hs : w.ShapedOpen Tryz.prog) (h : laidMetH Tryz.prog l w) (hp : (l.all fun x => x.2.handleName?.isNone) = true)
    (h1 : l.filter (fun x => x.1 == "internal/strconv.uint64pow10") = [("internal/strconv.uint64pow10", Lib.tabData .u64 Lib.pow10Tab)]) : GT w := by
  rw [MakeChecks.laidMetH_plain _ _ _ hp] at h
  refine ⟨Tryz.laysM146.s1_3 w hs, ?_⟩
  have h4 := h.filter (fun x => x.1 == "internal/strconv.uint64pow10")
  rw [h1] at h4
  exact Lib.tabIs_of_head (g := 3) (t := 191) (n := 20) (e := 170) (by kernel_rfl) (by kernel_rfl) Tryz.underlying191 Tryz.underlying170 (by kernel_rfl) (by kernel_rfl) h4

theorem Itoa_any (n : Int) (w : World) (hg : GT w) (h0 : -9223372036854775808 ≤ n) (h1 : n ≤ 9223372036854775807) :
    Calls Tryz.prog 42 #[.int .i64 n] w fun e w' => e = .returned (.string (tx (Lib.itoa n))) ∧ Below w.heap.size w w' := by
  refine (Tryz.strconv_Itoa n h0 h1 w hg.tab).mono ?_
  rintro e w' ⟨rfl, k, os, rfl⟩
  exact ⟨rfl, Lib.below_grow _ w (Nat.le_refl _) k os⟩
/-- the number that Atoi hands back -/
def atoiV (l : List UInt8) : Int := match Lib.atoiAll l with
  | .ok v => v
  | .range => Lib.atoiSat l
  | _ => 0
def atoiOk (l : List UInt8) : Bool := match Lib.atoiAll l with
  | .ok _ => true
  | _ => false
def AtoiPost (l : List UInt8) (w : World) (e : Ending) (w' : World) : Prop :=
  (∃ ev, e = .returned (.tuple #[.int .i64 (atoiV l), ev]) ∧ ((atoiOk l = true ∧ ev = .nilIface) ∨ (atoiOk l = false ∧ ∃ t v, ev = .iface t v))) ∧ Below w.heap.size w w'
theorem Atoi_any (s : ByteArray) (w : World) (hg : GW w) (hs : s.size ≤ 10000000) :
    Calls Tryz.prog 74 #[.string s] w (AtoiPost s.data.toList w) := by
  unfold AtoiPost atoiV atoiOk
  cases h : Lib.atoiAll s.data.toList
  · refine (Tryz.strconv_Atoi_ok s (by omega) _ h w).mono ?_
    rintro e w' ⟨rfl, hw⟩
    refine ⟨⟨_, rfl, .inl ⟨rfl, rfl⟩⟩, ?_⟩
    rcases hw with rfl | ⟨t, rfl⟩
    · exact Below.refl _ _
    · exact Lib.bytesWorld_below _ _ _
  · obtain ⟨tp, p, hv⟩ := hg.es
    refine (Any.strconv_Atoi_syntax_var Tryz.laysC172 s (by omega) h tp p w hv).mono ?_
    rintro e w' ⟨N, rfl, _, _, hb⟩
    exact ⟨⟨_, rfl, .inr ⟨rfl, _, _, rfl⟩⟩, hb⟩
  · obtain ⟨tp, p, hv⟩ := hg.er
    refine (Tryz.strconv_Atoi_range_var s (by omega) h tp p w hv).mono ?_
    rintro e w' ⟨N, rfl, _, _, hb⟩
    exact ⟨⟨_, rfl, .inr ⟨rfl, _, _, rfl⟩⟩, hb⟩
theorem Cut_any (s : ByteArray) (c : UInt8) (w : World) (hg : GM w) (hs : s.size ≤ 10000000) :
    Calls Tryz.prog 73 #[.string s, .string ⟨#[c]⟩] w fun e w' => e = .returned (.tuple #[.string (tx (cutAt c s.data.toList).1), .string (tx (cutAt c s.data.toList).2.1), .bool (cutAt c s.data.toList).2.2]) ∧ Below w.heap.size w w' := by
  obtain ⟨m, hm⟩ := hg
  refine (Tryz.strings_Cut s ⟨#[c]⟩ m w (by omega) hm).mono ?_
  rintro e w' ⟨rfl, n, rfl⟩
  refine ⟨?_, below_drewN (Below.refl _ _) n⟩
  have e1 : Lib.cut s.data.toList (⟨#[c]⟩ : ByteArray).data.toList = cutAt c s.data.toList := cut_eq c s.data.toList
  rw [e1]
  rfl
end Go.Proofs.YtgeedjlbajmdkaaGreatDoor
namespace Go.Proofs.YtgeedjlbajmdkaaGreatDoor
open Go.RowKit

def numOk (l : List UInt8) : Bool := (numS l).isSome
theorem numOk_eq (l : List UInt8) : numOk l = (atoiOk l && decide (Lib.itoa (atoiV l) = l)) := by
  unfold numOk numS atoiOk atoiV
  cases h : Lib.atoiAll l
  · simp only [Bool.true_and]
    split <;> rename_i h2
    · rw [decide_eq_true h2]; rfl
    · rw [decide_eq_false h2]; rfl
  · rfl
  · rfl
theorem numOk_val {l : List UInt8} (h : numOk l = true) : numS l = some (atoiV l) := by
  have h2 := h
  rw [numOk_eq] at h2
  simp only [Bool.and_eq_true, decide_eq_true_eq] at h2
  unfold numOk at h
  obtain ⟨v, hv⟩ := Option.isSome_iff_exists.1 h
  rw [hv]
  unfold numS at hv
  unfold atoiV
  revert hv
  cases Lib.atoiAll l
  · intro hv
    simp only at hv ⊢
    split at hv
    · exact hv.symm
    · cases hv
  · intro hv; cases hv
  · intro hv; cases hv
theorem numOk_ref {l : List UInt8} : (refNum l).2 = numOk l := ref_fine l
theorem numOk_refv {l : List UInt8} (h : numOk l = true) : (refNum l).1 = atoiV l := by
  have := refNum_ok (numOk_val h)
  rw [this]
theorem atoiV_bd {l : List UInt8} : -9223372036854775808 ≤ atoiV l ∧ atoiV l ≤ 9223372036854775807 := by
  unfold atoiV
  cases h : Lib.atoiAll l
  · exact Lib.atoiAll_bounds h
  · exact ⟨show (-9223372036854775808 : Int) ≤ 0 by decide, show (0 : Int) ≤ 9223372036854775807 by decide⟩
  · exact Lib.atoiSat_bounds l
theorem numOk_bd {l : List UInt8} (h : numOk l = true) : -9223372036854775808 ≤ atoiV l ∧ atoiV l ≤ 9223372036854775807 := atoiV_bd
set_option maxRecDepth 100000 in
set_option maxHeartbeats 1000000 in
theorem number_any (s : ByteArray) (c : UInt8) (w : World) (hg : GW w) (hs : s.size ≤ 10000000) :
    Calls Tryz.prog 112 #[.string s, .string ⟨#[c]⟩] w fun e w' => e = .returned (.tuple #[.int .i64 (atoiV (cutAt c s.data.toList).1), .string (tx (cutAt c s.data.toList).2.1), .bool ((cutAt c s.data.toList).2.2 && numOk (cutAt c s.data.toList).1)]) ∧ Below w.heap.size w w' := by
  have HC := hide (Cut_any s c w hg.gm hs)
  have hl := (cutAt_len c s.data.toList).1
  rw [tl_len] at hl
  generalize cutAt c s.data.toList = q at *
  obtain ⟨A, B, ok⟩ := q
  dsimp only at HC hl ⊢
  have HG := hide hg
  clear hg
  go_enter Tryz.func112, Tryz.ntmps112
  go_wp2_with fail
  refine HC.out.mono ?_
  rintro e w1 ⟨rfl, b1⟩
  have HB1 := hide b1
  have HG1 := hide (HG.out.later b1 (Nat.le_refl _))
  have HA := hide (Atoi_any (tx A) w1 HG1.out (by rw [tx_size]; omega))
  rw [tx_list] at HA
  clear HC HG b1
  go_wp2_with fail
  refine HA.out.mono ?_
  rintro e w2 ⟨⟨ev, rfl, hev⟩, b2⟩
  have HB2 := hide (HB1.out.trans (b2.mono HB1.out.size))
  have HG2 := hide (HG1.out.later b2 (Nat.le_refl _))
  have HN := hide (numOk_eq A)
  have HV := hide (atoiV_bd (l := A))
  clear HA HB1 HG1 b2
  cases ok
  · go_wp2
    all_goals
      go_ret3
      exact ⟨rfl, HB2.out⟩
  · rcases hev with ⟨ho, rfl⟩ | ⟨ho, t, v, rfl⟩
    · have HI := hide (Itoa_any (atoiV A) w2 HG2.out HV.out.1 HV.out.2)
      have HO := hide ho
      clear ho
      generalize hvv : atoiV A = v at *
      have HVV := hide hvv
      clear hvv
      go_wp2_with fail
      refine HI.out.mono ?_
      rintro e w3 ⟨rfl, b3⟩
      have HB3 := hide (HB2.out.trans (b3.mono HB2.out.size))
      clear HI b3
      go_wp2
      go_ret3
      refine ⟨?_, HB3.out⟩
      rw [HN.out, HO.out, HVV.out]
      show Ending.returned (.tuple #[.int .i64 v, .string (tx B), .bool ((tx (Lib.itoa v)).toList == (tx A).toList)]) = _
      rw [tl, tl, tx_list, tx_list]
      by_cases he : Lib.itoa v = A
      · rw [he]; simp
      · rw [decide_eq_false he, show (Lib.itoa v == A) = false by rw [beq_eq_false_iff_ne]; exact he]; rfl
    · have HO := hide ho
      clear ho
      go_wp2
      go_ret3
      refine ⟨?_, HB2.out⟩
      rw [HN.out, HO.out]
      rfl
end Go.Proofs.YtgeedjlbajmdkaaGreatDoor
