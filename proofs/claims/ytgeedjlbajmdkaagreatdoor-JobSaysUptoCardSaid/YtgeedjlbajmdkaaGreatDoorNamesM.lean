/- job.names: the map of the kinds' names. -/
import Derived.Test.YtgeedjlbajmdkaaGreatDoorNum
import Derived.Test.YtgeedjlbajmdkaaGreatDoorBuild
import Derived.Lib.LaidTab
import Derived.LaidSub
import Derived.Lib.ItoaMem
import Derived.Lib.AppendIntMem
import Derived.Lib.AtoiErrMem
import Derived.Maps.OwnSet
import Derived.Maps.RangeWalk
set_option linter.unusedSimpArgs false
set_option linter.unusedVariables false
/- The library's variables that the program's texts read; strconv and strings at this program, in one form. -/
namespace Go.Proofs.YtgeedjlbajmdkaaGreatDoor
open Go.RowKit

theorem trod_if {H : Type} {enc : TypeId × Value → H} {P : Program} {w : World} {base : Nat} {sp : Nat → Bool} {held : Bool} {fuel : Nat} {t : TypeId} {ms : Array (String × TypeId)} {cs : List Value} {d : DataW H} {ps : List MemPlace}
    (ht : P.underlying t = some (.interface ms)) (h : DataW.trod enc P w base sp held fuel t cs = some (d, ps)) : (cs = [.nilIface] ∧ d = .nil) ∨ ∃ u v, cs = [.iface u v] := by
  cases fuel with
  | zero => cases h
  | succ n =>
    unfold DataW.trod at h
    rw [ht] at h
    match cs with
    | [] => cases h
    | [c] =>
      cases c
      case nilIface => left; exact ⟨rfl, by injection h with h; injection h with h; exact h.symm⟩
      case iface u v => right; exact ⟨u, v, rfl⟩
      all_goals cases h
    | a :: b :: r => cases a <;> cases h
/-- what the library's variables hold: of those that write numbers -/
structure GT (w : World) : Prop where
  gm : GM w
  tab : Lib.TabIs Tryz.prog w "internal/strconv.uint64pow10" .u64 Lib.pow10Tab
/-- and of those that read them -/
structure GW (w : World) : Prop extends GT w where
  es : ∃ tp p, w.var? Tryz.prog "strconv.ErrSyntax" = some #[.iface tp p]
  er : ∃ tp p, w.var? Tryz.prog "strconv.ErrRange" = some #[.iface tp p]
theorem var_later {w w' : World} {B : Nat} {n : String} {c : Array Value} (h : w.var? Tryz.prog n = some c) (hb : Below B w w') (hB : w.heap.size ≤ B) : w'.var? Tryz.prog n = some c := by
  unfold World.var? at *
  cases hg : Program.globalNamed Tryz.prog n with
  | none => simp [hg] at h
  | some g =>
    simp only [hg, Option.bind_some] at h ⊢
    have hlt : g < w.heap.size := by
      rcases Nat.lt_or_ge g w.heap.size with h' | h'
      · exact h'
      · rw [Array.getElem?_eq_none h'] at h; simp at h
    rw [hb.block g (by omega)]
    exact h
theorem GW.later {w w' : World} {B : Nat} (h : GW w) (hb : Below B w w') (hB : w.heap.size ≤ B) : GW w' := by
  obtain ⟨⟨a, b⟩, ⟨c1, c2, c⟩, ⟨d1, d2, d⟩⟩ := h
  exact ⟨⟨a.later hb hB, var_later b hb hB⟩, ⟨c1, c2, var_later c hb hB⟩, ⟨d1, d2, var_later d hb hB⟩⟩
theorem GT.later {w w' : World} {B : Nat} (h : GT w) (hb : Below B w w') (hB : w.heap.size ≤ B) : GT w' := ⟨h.gm.later hb hB, var_later h.tab hb hB⟩
instance gwgt {w : World} : Coe (GW w) (GT w) := ⟨GW.toGT⟩
theorem vars_read {w : World} : ∀ {l : List (String × DataW Unit)} {ps : List MemPlace}, DataW.LaidVars Tryz.prog w l ps → ∀ n d, (n, d) ∈ l →
    ∃ g t cs fuel p, Program.globalNamed Tryz.prog n = some g ∧ (Tryz.prog.globals[g]?).map (·.type) = some t ∧ w.var? Tryz.prog n = some cs ∧ DataW.trod (fun _ => ()) Tryz.prog w 0 (fun _ => true) false fuel t cs.toList = some (d, p)
  | [], _, _, _, _, hm => by cases hm
  | (n', d') :: r, ps, h, n, d, hm => by
    obtain ⟨g, t, cs, fuel, p, q, h1, h2, h3, h4, h5, _⟩ := h
    rcases List.mem_cons.1 hm with e | e
    · cases e
      exact ⟨g, t, cs, fuel, p, h1, h2, h3, h4⟩
    · exact vars_read h5 n d e
theorem err_var {w : World} {l : List (String × DataW Unit)} (h : laidMet Tryz.prog l w) {n u : String} {d : DataW Unit} (hm : (n, DataW.iface u d) ∈ l) (ht : ((Program.globalNamed Tryz.prog n).bind fun g => Tryz.prog.globals[g]?).map (·.type) = some 30) :
    ∃ tp p, w.var? Tryz.prog n = some #[.iface tp p] := by
  obtain ⟨g, t, cs, fuel, p, h1, h2, h3, h4⟩ := vars_read h.choose_spec.1 _ _ hm
  rw [h1] at ht
  obtain rfl : t = 30 := Option.some.inj (h2.symm.trans ht)
  rcases trod_if Tryz.underlying30 h4 with ⟨_, e⟩ | ⟨u, v, e⟩
  · cases e
  · refine ⟨u, v, ?_⟩
    rw [h3]
    have : cs = #[Value.iface u v] := by
      apply Array.ext'
      rw [e]
    rw [this]
theorem GW.of {w : World} {l : List (String × DataW Unit)} (hs : w.ShapedOpen Tryz.prog) (h : laidMetH Tryz.prog l w) (hp : (l.all fun x => x.2.handleName?.isNone) = true)
    (h1 : l.filter (fun x => x.1 == "internal/strconv.uint64pow10") = [("internal/strconv.uint64pow10", Lib.tabData .u64 Lib.pow10Tab)])
    {u1 u2 : String} {d1 d2 : DataW Unit} (h2 : ("strconv.ErrSyntax", DataW.iface u1 d1) ∈ l) (h3 : ("strconv.ErrRange", DataW.iface u2 d2) ∈ l) : GW w := by
  rw [MakeChecks.laidMetH_plain _ _ _ hp] at h
  refine ⟨⟨Tryz.laysM146.s1_3 w hs, ?_⟩, err_var h h2 (by kernel_rfl), err_var h h3 (by kernel_rfl)⟩
  have h4 := h.filter (fun x => x.1 == "internal/strconv.uint64pow10")
  rw [h1] at h4
  exact Lib.tabIs_of_head (g := 3) (t := 191) (n := 20) (e := 170) (by kernel_rfl) (by kernel_rfl) Tryz.underlying191 Tryz.underlying170 (by kernel_rfl) (by kernel_rfl) h4
theorem GT.of {w : World} {l : List (String × DataW Unit)} (hs : w.ShapedOpen Tryz.prog) (h : laidMetH Tryz.prog l w) (hp : (l.all fun x => x.2.handleName?.isNone) = true)
    (h1 : l.filter (fun x => x.1 == "internal/strconv.uint64pow10") = [("internal/strconv.uint64pow10", Lib.tabData .u64 Lib.pow10Tab)]) : GT w := by
  rw [MakeChecks.laidMetH_plain _ _ _ hp] at h
  refine ⟨Tryz.laysM146.s1_3 w hs, ?_⟩
  have h4 := h.filter (fun x => x.1 == "internal/strconv.uint64pow10")
  rw [h1] at h4
  exact Lib.tabIs_of_head (g := 3) (t := 191) (n := 20) (e := 170) (by kernel_rfl) (by kernel_rfl) Tryz.underlying191 Tryz.underlying170 (by kernel_rfl) (by kernel_rfl) h4

theorem Itoa_any (n : Int) (w : World) (hg : GT w) (h0 : -9223372036854775808 ≤ n) (h1 : n ≤ 9223372036854775807) :
    Calls Tryz.prog 42 #[.int .i64 n] w fun e w' => e = .returned (.string (tx (Lib.itoa n))) ∧ Below w.heap.size w w' := by
  refine (Tryz.strconv_Itoa n h0 h1 w hg.tab).mono ?_
  rintro e w' ⟨rfl, k, os, rfl⟩
  exact ⟨rfl, Lib.below_grow _ w (Nat.le_refl _) k os⟩
/-- the number that Atoi hands back -/
def atoiV (l : List UInt8) : Int := match Lib.atoiAll l with
  | .ok v => v
  | .range => Lib.atoiSat l
  | _ => 0
def atoiOk (l : List UInt8) : Bool := match Lib.atoiAll l with
  | .ok _ => true
  | _ => false
def AtoiPost (l : List UInt8) (w : World) (e : Ending) (w' : World) : Prop :=
  (∃ ev, e = .returned (.tuple #[.int .i64 (atoiV l), ev]) ∧ ((atoiOk l = true ∧ ev = .nilIface) ∨ (atoiOk l = false ∧ ∃ t v, ev = .iface t v))) ∧ Below w.heap.size w w'
theorem Atoi_any (s : ByteArray) (w : World) (hg : GW w) (hs : s.size ≤ 1000000) :
    Calls Tryz.prog 74 #[.string s] w (AtoiPost s.data.toList w) := by
  unfold AtoiPost atoiV atoiOk
  cases h : Lib.atoiAll s.data.toList
  · refine (Tryz.strconv_Atoi_ok s (by omega) _ h w).mono ?_
    rintro e w' ⟨rfl, hw⟩
    refine ⟨⟨_, rfl, .inl ⟨rfl, rfl⟩⟩, ?_⟩
    rcases hw with rfl | ⟨t, rfl⟩
    · exact Below.refl _ _
    · exact Lib.bytesWorld_below _ _ _
  · obtain ⟨tp, p, hv⟩ := hg.es
    refine (Any.strconv_Atoi_syntax_var Tryz.laysC172 s (by omega) h tp p w hv).mono ?_
    rintro e w' ⟨N, rfl, _, _, hb⟩
    exact ⟨⟨_, rfl, .inr ⟨rfl, _, _, rfl⟩⟩, hb⟩
  · obtain ⟨tp, p, hv⟩ := hg.er
    refine (Tryz.strconv_Atoi_range_var s (by omega) h tp p w hv).mono ?_
    rintro e w' ⟨N, rfl, _, _, hb⟩
    exact ⟨⟨_, rfl, .inr ⟨rfl, _, _, rfl⟩⟩, hb⟩
theorem Cut_any (s : ByteArray) (c : UInt8) (w : World) (hg : GM w) (hs : s.size ≤ 1000000) :
    Calls Tryz.prog 73 #[.string s, .string ⟨#[c]⟩] w fun e w' => e = .returned (.tuple #[.string (tx (cutAt c s.data.toList).1), .string (tx (cutAt c s.data.toList).2.1), .bool (cutAt c s.data.toList).2.2]) ∧ Below w.heap.size w w' := by
  obtain ⟨m, hm⟩ := hg
  refine (Tryz.strings_Cut s ⟨#[c]⟩ m w (by omega) hm).mono ?_
  rintro e w' ⟨rfl, n, rfl⟩
  refine ⟨?_, below_drewN (Below.refl _ _) n⟩
  have e1 : Lib.cut s.data.toList (⟨#[c]⟩ : ByteArray).data.toList = cutAt c s.data.toList := cut_eq c s.data.toList
  rw [e1]
  rfl
end Go.Proofs.YtgeedjlbajmdkaaGreatDoor
namespace Go.Proofs.YtgeedjlbajmdkaaGreatDoor
open Go.RowKit

/-- a map's literal: one entry more -/
theorem wpList_insert_own {H : Type} {P : Program} (w : World) {ops : Array Oper} {rest : List Oper} {o : Oper} {a : Act} {Q : Exit → Act → World → Prop}
    (hg : o.guard = none) (m x v : Operand) (t : TypeId) (hop : o.op = Op.insert t m x v)
    (k e : TypeId) (K : Maps.Keyed P k) (ht : P.underlying t = some (.map k e)) (R : Value → Option (DataW H × List MemPlace)) (b n : Nat) (D : DataW H)
    (hm : a.eval m = .map (some b)) (hown : w.ownsMap P k R b n D) (hn : n < maxLen) (key val : Value) (kl : Lit) (hx : a.eval x = key) (hv : a.eval v = val) (hkey : keyOf P k key = some kl)
    (d : DataW H) (ps : List MemPlace) (hval : R val = some (d, ps))
    (hK : ∀ w', w'.ownsMap P k R b (n + 1) (D.put kl d) → w.grownBy w' (some b) → wpList P ops Q rest (a.put o.dst undef) w') :
    wpList P ops Q (o :: rest) a w := by
  refine wpList_plain hg fun K' hK' => ?_
  obtain ⟨w', hrun, r1, r2⟩ := hown.update K ht hn hkey hval
  unfold Oper.wp
  simp [execOp, hop, hm, hx, hv, hrun, Result.andThen]
  exact hK' _ _ (hK w' r1 r2)
theorem plainElem_string_inv {H : Type} {P : Program} {e : TypeId} (he : P.underlying e = some .string) {v : Value} {z : DataW H × List MemPlace} (h : plainElem P e v = some z) : ∃ s : ByteArray, v = .string s ∧ z = (.lit (.string s.data.toList), []) ∧ s.size ≤ maxLen := by
  unfold plainElem at h
  rw [he] at h
  cases v <;> simp at h
  exact ⟨_, rfl, h.2.symm, h.1⟩
/-- the kinds' names -/
def nameK (k : Int) : List UInt8 :=
  if k = 1 then [105, 116] else if k = 2 then [108, 105, 110, 101] else if k = 3 then [119, 111, 114, 100] else if k = 4 then [116, 101, 120, 116] else if k = 5 then [99, 97, 116]
  else if k = 6 then [99, 117, 116] else if k = 7 then [110, 117, 109] else if k = 8 then [108, 101, 110] else if k = 9 then [109, 97, 110, 121] else if k = 10 then [97, 100, 100] else []
def namesL : List (Lit × DataW Unit) := [1, 2, 3, 4, 5, 6, 7, 8, 9, 10].map fun k => (.int .i64 k, .lit (.string (nameK k)))
def namesD : DataW Unit := .map namesL
/-- make of a map -/
theorem wpList_makeMap {P : Program} (w : World) {ops : Array Oper} {rest : List Oper} {o : Oper} {a : Act} {Q : Exit → Act → World → Prop} (t : TypeId) (hg : o.guard = none) (hop : o.op = Op.makeMap t none)
    (hK : ∀ w', w' = w.alloc (.map #[] 0) → wpList P ops Q rest (a.put o.dst (.map (some w.heap.size))) w') : wpList P ops Q (o :: rest) a w := by
  refine wpList_plain hg fun K' hK' => ?_
  unfold Oper.wp
  have hrun : (Instr.makeMap t none).run P w = .ok (.map (some w.heap.size)) (w.alloc (.map #[] 0)) := rfl
  simp [execOp, hop, hrun, Result.andThen]
  exact hK' _ _ (hK _ rfl)
theorem keyedInt : Maps.Keyed Tryz.prog 3 := Maps.int_keyed Tryz.underlying3
theorem key_int (k : Int) (h : -9223372036854775808 ≤ k ∧ k ≤ 9223372036854775807) : keyOf Tryz.prog 3 (.int .i64 k) = some (.int .i64 k) := Maps.keyOf_int_mk Tryz.underlying3 (by have h1 : IntKind.i64.min = -9223372036854775808 := rfl; have h2 : IntKind.i64.max = 9223372036854775807 := rfl; simp only [Lit.wf, h1, h2, Bool.and_eq_true, decide_eq_true_eq]; exact h)
theorem elem_str (s : ByteArray) (h : s.size ≤ maxLen) : plainElem (H := Unit) Tryz.prog 9 (.string s) = some (.lit (.string s.data.toList), []) := plainElem_string Tryz.underlying9 h
theorem below_ins {w0 w w' : World} {B b : Nat} (hb : Below B w0 w) (h0 : B ≤ w0.heap.size) (hB : B ≤ b) (h : w.grownBy w' (some b)) : Below B w0 w' :=
  hb.trans ⟨h.os, h.tape, h.output, h.size, fun k hk => h.block k (by have := hb.size; omega) (by simp; omega)⟩
theorem names_put : (((((((((((DataW.map [] : DataW Unit).put (.int .i64 1) (.lit (.string (nameK 1)))).put (.int .i64 2) (.lit (.string (nameK 2)))).put (.int .i64 3) (.lit (.string (nameK 3)))).put (.int .i64 4) (.lit (.string (nameK 4)))).put (.int .i64 5) (.lit (.string (nameK 5)))).put (.int .i64 6) (.lit (.string (nameK 6)))).put (.int .i64 7) (.lit (.string (nameK 7)))).put (.int .i64 8) (.lit (.string (nameK 8)))).put (.int .i64 9) (.lit (.string (nameK 9)))).put (.int .i64 10) (.lit (.string (nameK 10)))) = namesD := by kernel_rfl
theorem names_look {w : World} {b : Nat} {k : Int} (h : w.ownsMap Tryz.prog 3 (plainElem Tryz.prog 9) b 10 namesD) (hk : 1 ≤ k ∧ k ≤ 10) : (Instr.lookup 132 (.map (some b)) (.int .i64 k) false).run Tryz.prog w = .ok (.string ⟨(nameK k).toArray⟩) w := by
  obtain ⟨v, ps, hrun, hv⟩ := h.lookup keyedInt Tryz.underlying132 (z := .string ⟨#[]⟩) (by kernel_rfl) (elem_str _ (by decide)) (key_int k (by omega))
  rw [hrun]
  obtain ⟨s, rfl, hs, _⟩ := plainElem_string_inv Tryz.underlying9 hv
  have h1 : k = 1 ∨ k = 2 ∨ k = 3 ∨ k = 4 ∨ k = 5 ∨ k = 6 ∨ k = 7 ∨ k = 8 ∨ k = 9 ∨ k = 10 := by omega
  have e : DataW.atKey namesD (.int .i64 k) (.lit (.string (⟨#[]⟩ : ByteArray).data.toList)) = .lit (.string (nameK k)) := by
    rcases h1 with rfl | rfl | rfl | rfl | rfl | rfl | rfl | rfl | rfl | rfl <;> kernel_rfl
  rw [e] at hs
  simp only [Prod.mk.injEq, DataW.lit.injEq, Lit.string.injEq] at hs
  rw [hs.1]
set_option maxRecDepth 100000 in
set_option maxHeartbeats 2000000 in
theorem names_any (w : World) : Calls Tryz.prog 86 #[] w fun e w' => e = .returned (.map (some w.heap.size)) ∧ w'.ownsMap Tryz.prog 3 (plainElem Tryz.prog 9) w.heap.size 10 namesD ∧ Below w.heap.size w w' := by
  go_enter Tryz.func86, Tryz.ntmps86
  go_wp2_with (first | (refine wpList_makeMap _ 132 rfl rfl ?_) | (refine wpList_insert_own _ rfl _ _ _ 132 rfl 3 9 keyedInt Tryz.underlying132 _ w.heap.size 0 _ rfl (World.ownsMap_made w Tryz.prog 3 _) (by decide) _ _ (.int .i64 1) rfl rfl (key_int 1 (by decide)) (.lit (.string (nameK 1))) [] (elem_str _ (by decide)) ?_))
  intro w1 ho hg
  have hb2 := below_ins ((Below.refl w.heap.size w).alloc (Nat.le_refl _) (.map #[] 0)) (Nat.le_refl _) (Nat.le_refl _) hg
  clear hg
  have hown := ho
  have hb := hb2
  clear ho hb2
  refine wpList_insert_own w1 rfl _ _ _ 132 rfl 3 9 keyedInt Tryz.underlying132 _ w.heap.size 1 _ rfl hown (by decide) _ _ (.int .i64 2) rfl rfl (key_int 2 (by decide)) (.lit (.string (nameK 2))) [] (elem_str _ (by decide)) ?_
  intro w2 ho hg
  have hb2 := below_ins hb (Nat.le_refl _) (Nat.le_refl _) hg
  clear hown hb hg
  have hown := ho
  have hb := hb2
  clear ho hb2
  refine wpList_insert_own w2 rfl _ _ _ 132 rfl 3 9 keyedInt Tryz.underlying132 _ w.heap.size 2 _ rfl hown (by decide) _ _ (.int .i64 3) rfl rfl (key_int 3 (by decide)) (.lit (.string (nameK 3))) [] (elem_str _ (by decide)) ?_
  intro w3 ho hg
  have hb2 := below_ins hb (Nat.le_refl _) (Nat.le_refl _) hg
  clear hown hb hg
  have hown := ho
  have hb := hb2
  clear ho hb2
  refine wpList_insert_own w3 rfl _ _ _ 132 rfl 3 9 keyedInt Tryz.underlying132 _ w.heap.size 3 _ rfl hown (by decide) _ _ (.int .i64 4) rfl rfl (key_int 4 (by decide)) (.lit (.string (nameK 4))) [] (elem_str _ (by decide)) ?_
  intro w4 ho hg
  have hb2 := below_ins hb (Nat.le_refl _) (Nat.le_refl _) hg
  clear hown hb hg
  have hown := ho
  have hb := hb2
  clear ho hb2
  refine wpList_insert_own w4 rfl _ _ _ 132 rfl 3 9 keyedInt Tryz.underlying132 _ w.heap.size 4 _ rfl hown (by decide) _ _ (.int .i64 5) rfl rfl (key_int 5 (by decide)) (.lit (.string (nameK 5))) [] (elem_str _ (by decide)) ?_
  intro w5 ho hg
  have hb2 := below_ins hb (Nat.le_refl _) (Nat.le_refl _) hg
  clear hown hb hg
  have hown := ho
  have hb := hb2
  clear ho hb2
  refine wpList_insert_own w5 rfl _ _ _ 132 rfl 3 9 keyedInt Tryz.underlying132 _ w.heap.size 5 _ rfl hown (by decide) _ _ (.int .i64 6) rfl rfl (key_int 6 (by decide)) (.lit (.string (nameK 6))) [] (elem_str _ (by decide)) ?_
  intro w6 ho hg
  have hb2 := below_ins hb (Nat.le_refl _) (Nat.le_refl _) hg
  clear hown hb hg
  have hown := ho
  have hb := hb2
  clear ho hb2
  refine wpList_insert_own w6 rfl _ _ _ 132 rfl 3 9 keyedInt Tryz.underlying132 _ w.heap.size 6 _ rfl hown (by decide) _ _ (.int .i64 7) rfl rfl (key_int 7 (by decide)) (.lit (.string (nameK 7))) [] (elem_str _ (by decide)) ?_
  intro w7 ho hg
  have hb2 := below_ins hb (Nat.le_refl _) (Nat.le_refl _) hg
  clear hown hb hg
  have hown := ho
  have hb := hb2
  clear ho hb2
  refine wpList_insert_own w7 rfl _ _ _ 132 rfl 3 9 keyedInt Tryz.underlying132 _ w.heap.size 7 _ rfl hown (by decide) _ _ (.int .i64 8) rfl rfl (key_int 8 (by decide)) (.lit (.string (nameK 8))) [] (elem_str _ (by decide)) ?_
  intro w8 ho hg
  have hb2 := below_ins hb (Nat.le_refl _) (Nat.le_refl _) hg
  clear hown hb hg
  have hown := ho
  have hb := hb2
  clear ho hb2
  refine wpList_insert_own w8 rfl _ _ _ 132 rfl 3 9 keyedInt Tryz.underlying132 _ w.heap.size 8 _ rfl hown (by decide) _ _ (.int .i64 9) rfl rfl (key_int 9 (by decide)) (.lit (.string (nameK 9))) [] (elem_str _ (by decide)) ?_
  intro w9 ho hg
  have hb2 := below_ins hb (Nat.le_refl _) (Nat.le_refl _) hg
  clear hown hb hg
  have hown := ho
  have hb := hb2
  clear ho hb2
  refine wpList_insert_own w9 rfl _ _ _ 132 rfl 3 9 keyedInt Tryz.underlying132 _ w.heap.size 9 _ rfl hown (by decide) _ _ (.int .i64 10) rfl rfl (key_int 10 (by decide)) (.lit (.string (nameK 10))) [] (elem_str _ (by decide)) ?_
  intro w10 ho hg
  have hb2 := below_ins hb (Nat.le_refl _) (Nat.le_refl _) hg
  clear hown hb hg
  have hown := ho
  have hb := hb2
  clear ho hb2
  rw [names_put] at hown
  have HO := hide hown
  have HB := hide hb
  clear hown hb
  go_wp2
  go_ret
  exact ⟨rfl, HO.out, HB.out⟩
end Go.Proofs.YtgeedjlbajmdkaaGreatDoor
