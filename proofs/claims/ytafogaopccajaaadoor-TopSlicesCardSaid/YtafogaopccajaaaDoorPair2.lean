/- Pairs: Check, KeySum, SliceOf, number; what the readers' steps say (plain). -/
import Derived.Test.YtafogaopccajaaaDoorPairLaw
import Derived.Test.YtafogaopccajaaaDoorMergeLaw
import Derived.Test.YtafogaopccajaaaDoorWords2
import Derived.OwnWalk
import Derived.Test.YtafogaopccajaaaDoorShelf
import Derived.Test.YtafogaopccajaaaDoorRws
import Derived.Shelf.Strings.Builder1
import Derived.Lib.Builder
import Derived.Lib.LaidTab
import Derived.LaidSub
import Derived.Lib.ItoaMem
import Derived.Lib.AppendIntMem
import Derived.Lib.AtoiErrMem
import Derived.Test.YtafogaopccajaaaDoorPairSum
set_option linter.unusedSimpArgs false
set_option linter.unusedVariables false
/- Numbers and texts: what upTo, Number and Decimal of the document return. -/
namespace Go.Proofs.YtafogaopccajaaaDoor
open Go.RowKit

theorem tx_take (s : ByteArray) (k : Nat) : tx (s.data.toList.take k) = s.extract 0 k := by
  have e : (s.extract 0 k).data.toList = s.data.toList.take k := by rw [Lib.extract_data]; simp
  rw [← tx_of (s.extract 0 k), e]
theorem tx_drop (s : ByteArray) (k : Nat) : tx (s.data.toList.drop k) = s.extract k s.size := by
  have e : (s.extract k s.size).data.toList = s.data.toList.drop k := by
    rw [Lib.extract_data, List.take_of_length_le]
    rw [List.length_drop, tl_len]; omega
  rw [← tx_of (s.extract k s.size), e]
theorem magS_yes {s : ByteArray} (hp : 0 < s.size) (hc : s[0] = 45) : magS s.data.toList = (s.extract 1 s.size).data.toList := by
  have e : (s.extract 1 s.size).data.toList = s.data.toList.drop 1 := by rw [← tx_drop, tx_list]
  rw [e]
  unfold magS
  rw [if_pos]
  rw [List.head?_eq_getElem?]
  show s.data.toList[0]? = _
  have : s.data.toList[0]? = some s[0] := by simp [ByteArray.getElem_eq_getElem_data, hp]
  rw [this, hc]
theorem magS_no {s : ByteArray} (h : ∀ hp : 0 < s.size, s[0] ≠ 45) : magS s.data.toList = s.data.toList := by
  unfold magS
  rw [if_neg]
  intro e
  rw [List.head?_eq_getElem?] at e
  have hp : 0 < s.size := by
    rcases Nat.eq_zero_or_pos s.size with h0 | h0
    · have : s.data.toList.length = 0 := by rw [tl_len]; exact h0
      rw [List.length_eq_zero_iff.1 this] at e; cases e
    · exact h0
  have : s.data.toList[0]? = some s[0] := by simp [ByteArray.getElem_eq_getElem_data, hp]
  rw [this] at e
  exact h hp (by simpa using e)
theorem dig_byte {c : UInt8} : isDig c = (!decide ((c.toNat : Int) < 48) && !decide (57 < (c.toNat : Int))) := by
  unfold isDig
  rw [Bool.eq_iff_iff]; simp; omega
theorem digV_take {t : ByteArray} {k : Nat} (h : k < t.size) : digV 0 (t.data.toList.take (k + 1)) = 10 * digV 0 (t.data.toList.take k) + (t[k].toNat - 48) := by
  rw [show t.data.toList.take (k + 1) = t.data.toList.take k ++ [t[k]] from bytes_take_succ h, digV_snoc]
theorem digV_bd {t : ByteArray} {k : Nat} (h19 : t.size ≤ 19) (hk : k ≤ t.size) (hd : t.data.toList.all isDig = true) (hx : ¬ (t.data.toList.length = 19 ∧ 9223372036854775807 < digV 0 t.data.toList)) : digV 0 (t.data.toList.take k) ≤ 9223372036854775807 := by
  have hd' : ∀ c ∈ t.data.toList, isDig c = true := List.all_eq_true.1 hd
  have e : t.data.toList = t.data.toList.take k ++ t.data.toList.drop k := (List.take_append_drop k _).symm
  have happ : ∀ (a b : List UInt8) (acc : Nat), digV acc (a ++ b) = digV (digV acc a) b := by
    intro a
    induction a with
    | nil => intro b acc; rw [List.nil_append, digV_nil]
    | cons c a ih => intro b acc; rw [List.cons_append, digV_cons, digV_cons, ih]
  have hm := digV_mono (t.data.toList.drop k) (digV 0 (t.data.toList.take k))
  rw [← happ, ← e] at hm
  by_cases h : t.data.toList.length = 19
  · have : ¬ 9223372036854775807 < digV 0 t.data.toList := fun h2 => hx ⟨h, h2⟩
    omega
  · have h1 := digV_lt t.data.toList 0 hd'
    rw [tl_len] at h h1
    have h2 : 10 ^ t.size ≤ 10 ^ 18 := Nat.pow_le_pow_right (by decide) (by omega)
    have h3 : (0 + 1) * 10 ^ t.size = 10 ^ t.size := by rw [Nat.zero_add, Nat.one_mul]
    have h4 : (10 : Nat) ^ 18 = 1000000000000000000 := by decide
    omega
theorem bl_gt (a b : List UInt8) : (!Op.bytesLess a b && !a == b) = Op.bytesLess b a := by
  rcases bl_tri a b with h | h | h
  · rw [h, bl_asymm h]; rfl
  · subst h; rw [bl_irrefl]; simp
  · rw [h, bl_asymm h]
    have : (a == b) = false := by
      rw [beq_eq_false_iff_ne]; intro e; subst e; rw [bl_irrefl] at h; cases h
    rw [this]; rfl
theorem wrap64_in {x : Int} (h0 : -9223372036854775808 ≤ x) (h1 : x ≤ 9223372036854775807) : wrap64 x = x := by unfold wrap64; omega
def refNum2 (t s : ByteArray) : Int × Bool := if t.data.toList.all isDig = true then (if t.data.toList.length = 19 ∧ 9223372036854775807 < digV 0 t.data.toList then (-9223372036854775808, decide (s.data.toList = min20)) else (if t.data.toList.length < s.data.toList.length then -(digV 0 t.data.toList : Int) else digV 0 t.data.toList, true)) else (0, false)
end Go.Proofs.YtafogaopccajaaaDoor
/- A strings.Builder that a call makes itself: its methods at this program. -/
namespace Go.Proofs.YtafogaopccajaaaDoor
open Go.Shelf Go.RowKit

theorem bdSize : (Tryd.prog.info? 117).map (·.size) = some 2 := by kernel_rfl
theorem bdByte : (Tryd.prog.info? 5).map (fun i => (i.zero, i.size, i.bytes)) = some (some (.int .u8 0), 1, 1) := by kernel_rfl
theorem bdLies : liesAt Tryd.prog Tryd.prog.depth 117 (2 / Tryd.prog.cellsOf 117) 0 117 1 = true := by kernel_rfl
/-- a builder of the call's own that holds these bytes -/
def Bd (w : World) (B b : Nat) (l : List UInt8) : Prop := Lib.IsBuilder 117 5 B b (Lib.byteCells l) w
set_option maxHeartbeats 1000000 in
set_option maxRecDepth 100000 in
theorem bd_used (b : Nat) (w : World) (h0 : w.cell? ⟨b, 0, none⟩ = some (.pointer (some ⟨b, 0, none⟩))) :
    Calls Tryd.prog 93 #[.pointer (some ⟨b, 0, none⟩)] w fun e w' => e = .returned (.tuple #[]) ∧ w' = w := by
  obtain ⟨j, hj, _⟩ := Option.map_eq_some_iff.1 bdSize
  go_enter Tryd.func93, Tryd.ntmps93
  go_wp2
  rw [Lib.run_neq_ptr_same w _ Tryd.underlying114 hj]
  go_wp2
  go_end0
  exact ⟨rfl, rfl⟩
set_option maxHeartbeats 1000000 in
set_option maxRecDepth 100000 in
theorem bd_fresh (b : Nat) (w : World) (h0 : w.cell? ⟨b, 0, none⟩ = some (.pointer none)) (hsh : w.shape? b = some (117, 2)) (hfz : w.frozen? ⟨b, 0, none⟩ = false) :
    Calls Tryd.prog 93 #[.pointer (some ⟨b, 0, none⟩)] w fun e w' => e = .returned (.tuple #[]) ∧ w' = w.setCell ⟨b, 0, none⟩ (.pointer (some ⟨b, 0, none⟩)) := by
  obtain ⟨j, hj, hjs⟩ := Option.map_eq_some_iff.1 bdSize
  go_enter Tryd.func93, Tryd.ntmps93
  go_wp2
  rw [Lib.run_to_unsafe w ⟨b, 0, none⟩ Tryd.underlying114 Tryd.underlying145 hj (by rw [hjs]; decide) hsh (Nat.zero_lt_succ 1)]
  simp only [Result.andThen]
  rw [Oper.upon_value]
  go_wp2
  rw [run_callFunc_extern Tryd.func108 (by kernel_rfl) (by kernel_rfl) (by kernel_rfl) (e := Extern.AbiNoEscape.same) (by kernel_rfl)]
  rw [Lib.run_noEscape]
  simp only [Result.andThen]
  rw [Oper.upon_value]
  go_wp2
  rw [Lib.run_from_unsafe w ⟨b, 0, none⟩ Tryd.underlying145 Tryd.underlying114 hj hsh bdLies]
  simp only [Result.andThen]
  rw [Oper.upon_value]
  go_wp2
  go_end0
  exact ⟨rfl, rfl⟩
theorem bd_check (B b : Nat) (bs : List Value) (w : World) (h : Lib.IsBuilder 117 5 B b bs w) :
    Calls Tryd.prog 93 #[.pointer (some ⟨b, 0, none⟩)] w fun e w' => e = .returned (.tuple #[]) ∧ (Lib.BuilderAt 117 5 B b (.pointer (some ⟨b, 0, none⟩)) bs w' ∧ Below B w w') := by
  rcases h with h | h
  · refine (bd_fresh b w h.cell0 h.shape h.frozen0).mono ?_
    rintro e w' ⟨rfl, rfl⟩
    exact ⟨rfl, h.used _, (Below.refl B w).setCell (p := ⟨b, 0, none⟩) h.1 _⟩
  · refine (bd_used b w h.cell0).mono ?_
    rintro e w' ⟨rfl, rfl⟩
    exact ⟨rfl, h, Below.refl B _⟩
theorem bd_check_kept (B b : Nat) (bs : List Value) (w : World) (h : Lib.IsBuilder 117 5 B b bs w) :
    Calls Tryd.prog 93 #[.pointer (some ⟨b, 0, none⟩)] w fun e w' => e = .returned (.tuple #[]) ∧ (Lib.BuilderAt 117 5 B b (.pointer (some ⟨b, 0, none⟩)) bs w' ∧ Below B w w' ∧ ∀ q, q ≠ b → w'.heap[q]? = w.heap[q]?) := by
  rcases h with h | h
  · refine (bd_fresh b w h.cell0 h.shape h.frozen0).mono ?_
    rintro e w' ⟨rfl, rfl⟩
    exact ⟨rfl, h.used _, (Below.refl B w).setCell (p := ⟨b, 0, none⟩) h.1 _, fun q hq => Below.heap_setCell _ _ _ _ (fun e => hq (by simp [e]))⟩
  · refine (bd_used b w h.cell0).mono ?_
    rintro e w' ⟨rfl, rfl⟩
    exact ⟨rfl, h, Below.refl B _, fun _ _ => rfl⟩
set_option maxHeartbeats 2000000 in
set_option maxRecDepth 100000 in
theorem bd_write_kept (B b : Nat) (l : List UInt8) (s : ByteArray) (w : World) (h : Bd w B b l) (hlen : l.length + s.size ≤ 140737488355328) (hBw : B ≤ w.heap.size) :
    Calls Tryd.prog 69 #[.pointer (some ⟨b, 0, none⟩), .string s] w fun e w' => e = .returned (.tuple #[.int .i64 s.size, .nilIface]) ∧ (Bd w' B b (l ++ s.data.toList) ∧ Below B w w' ∧ ∀ (q : Nat) (x : Obj), w.heap[q]? = some x → q ≠ b → (∀ c fr, x ≠ .cells c 5 fr) → w'.heap[q]? = some x) := by
  obtain ⟨i0, hi, hz0, hz1, hz2⟩ := info_parts bdByte
  unfold Bd at h
  generalize hbs : Lib.byteCells l = bs at h
  have hbl : bs.length = l.length := by rw [← hbs, Lib.byteCells_length]
  rw [← hbl] at hlen
  clear hbl
  go_enter Tryd.func69, Tryd.ntmps69
  go_wp2_with (go_at_call 93; refine (bd_check_kept B b bs _ h).mono ?_)
  rintro e w1 ⟨rfl, h1, hb1, hkc⟩
  have HKC := Lib.hid hkc
  clear hkc
  obtain ⟨hB, v, hbk, hown, hne⟩ := h1
  have c0 : w1.cell? ⟨b, 0, none⟩ = some (.pointer (some ⟨b, 0, none⟩)) := by rw [Lib.cell_of_heap hbk]; rfl
  have c1 : w1.cell? ⟨b, 1, none⟩ = some v := by rw [Lib.cell_of_heap hbk]; rfl
  go_wp2_with (at_builtin; refine Lib.wpList_append_own_string _ rfl _ _ 115 9 rfl B 5 i0 Tryd.underlying115 Tryd.underlying9 hi hz0 hz1 hz2 _ _ _ rfl hown s rfl ?c3 ?c4 ?c5 ?_)
  case c3 => unfold maxLen; omega
  case c4 => omega
  case c5 => have := hb1.size; omega
  intro v' w2 hown' hgrow _
  have hlt : b < w1.heap.size := by
    rcases Nat.lt_or_ge b w1.heap.size with h' | h'
    · exact h'
    · simp [Array.getElem?_eq_none h'] at hbk
  have hb2 : w2.heap[b]? = some (.cells #[.pointer (some ⟨b, 0, none⟩), v] 117 (0, 0)) := by
    rw [hgrow.block b hlt (fun e => hne e.symm)]
    exact hbk
  have d0 : w2.cell? ⟨b, 0, none⟩ = some (.pointer (some ⟨b, 0, none⟩)) := by rw [Lib.cell_of_heap hb2]; rfl
  have d1 : w2.cell? ⟨b, 1, none⟩ = some v := by rw [Lib.cell_of_heap hb2]; rfl
  have f1 : w2.frozen? ⟨b, 1, none⟩ = false := Lib.frozen_of_heap hb2 1
  obtain ⟨ao, n', cap, rfl⟩ : ∃ ao n' cap, v' = .slice ao n' cap := by
    rcases hown'.2 with ⟨hv, _⟩ | ⟨g, cap, cur, hv, _⟩
    · exact ⟨_, _, _, hv⟩
    · exact ⟨_, _, _, hv⟩
  go_wp2
  go_ret2
  refine ⟨rfl, ?_, ?_, ?_⟩
  · have hq := Lib.BuilderAt.put (T := 117) (e := 5) hB hb2 (bs' := bs ++ Lib.strCells s) (by simpa [Lib.strCells_length] using hown') (by decide)
    rw [← hbs] at hq
    have e : Lib.byteCells (l ++ s.data.toList) = Lib.byteCells l ++ Lib.strCells s := by simp [Lib.byteCells, Lib.strCells]
    unfold Bd
    rw [e]
    exact .inr hq
  · exact (hb1.grown hgrow (by have := hb1.size; omega) (fun k hk => (hown.lt k hk).1)).setCell (p := ⟨b, 1, none⟩) hB _
  · intro q x hq hqb hqx
    rw [Below.heap_setCell _ _ _ _ (fun e => hqb (by simp [e]))]
    have h1 := HKC.out q hqb
    have hlt1 : q < w1.heap.size := by
      have := (Array.getElem?_eq_some_iff.1 (h1.trans hq)).1
      exact this
    rw [hgrow.block q hlt1 (fun e => by
      rcases hown.2 with ⟨rfl, _⟩ | ⟨g, cap, cur, rfl, _, hg, _⟩
      · cases e
      · simp only [Value.ownBlock, Option.some.injEq] at e
        subst e
        rw [h1, hq] at hg
        simp only [Option.some.injEq] at hg
        exact hqx _ _ hg), h1, hq]
theorem bd_write (B b : Nat) (l : List UInt8) (s : ByteArray) (w : World) (h : Bd w B b l) (hlen : l.length + s.size ≤ 140737488355328) (hBw : B ≤ w.heap.size) :
    Calls Tryd.prog 69 #[.pointer (some ⟨b, 0, none⟩), .string s] w fun e w' => e = .returned (.tuple #[.int .i64 s.size, .nilIface]) ∧ (Bd w' B b (l ++ s.data.toList) ∧ Below B w w') :=
  (bd_write_kept B b l s w h hlen hBw).mono fun _ _ ⟨a, b, c, _⟩ => ⟨a, b, c⟩
theorem bd_string (B b : Nat) (l : List UInt8) (w : World) (h : Bd w B b l) (hBw : B ≤ w.heap.size) :
    Calls Tryd.prog 70 #[.pointer (some ⟨b, 0, none⟩)] w fun e w' => e = .returned (.string (tx l)) ∧ Below B w w' := by
  exact Tryd.Builder_String_any B b l w h hBw
theorem bd_new (w : World) : Bd (w.alloc (.cells #[.pointer none, .slice none 0 0] 117)) w.heap.size w.heap.size [] := Lib.fresh_isBuilder _ _ _
end Go.Proofs.YtafogaopccajaaaDoor
/- The library's variables that the program's texts read; strconv and strings at this program, in one form. -/
namespace Go.Proofs.YtafogaopccajaaaDoor
open Go.RowKit

theorem trod_if {H : Type} {enc : TypeId × Value → H} {P : Program} {w : World} {base : Nat} {sp : Nat → Bool} {held : Bool} {fuel : Nat} {t : TypeId} {ms : Array (String × TypeId)} {cs : List Value} {d : DataW H} {ps : List MemPlace}
    (ht : P.underlying t = some (.interface ms)) (h : DataW.trod enc P w base sp held fuel t cs = some (d, ps)) : (cs = [.nilIface] ∧ d = .nil) ∨ ∃ u v, cs = [.iface u v] := by
  cases fuel with
  | zero => cases h
  | succ n =>
    unfold DataW.trod at h
    rw [ht] at h
    match cs with
    | [] => cases h
    | [c] =>
      cases c
      case nilIface => left; exact ⟨rfl, by injection h with h; injection h with h; exact h.symm⟩
      case iface u v => right; exact ⟨u, v, rfl⟩
      all_goals cases h
    | a :: b :: r => cases a <;> cases h
/-- what the library's variables hold -/
structure GW (w : World) : Prop where
  gm : GM w
  tab : Lib.TabIs Tryd.prog w "internal/strconv.uint64pow10" .u64 Lib.pow10Tab
  es : ∃ tp p, w.var? Tryd.prog "strconv.ErrSyntax" = some #[.iface tp p]
  er : ∃ tp p, w.var? Tryd.prog "strconv.ErrRange" = some #[.iface tp p]
theorem var_later {w w' : World} {B : Nat} {n : String} {c : Array Value} (h : w.var? Tryd.prog n = some c) (hb : Below B w w') (hB : w.heap.size ≤ B) : w'.var? Tryd.prog n = some c := by
  unfold World.var? at *
  cases hg : Program.globalNamed Tryd.prog n with
  | none => simp [hg] at h
  | some g =>
    simp only [hg, Option.bind_some] at h ⊢
    have hlt : g < w.heap.size := by
      rcases Nat.lt_or_ge g w.heap.size with h' | h'
      · exact h'
      · rw [Array.getElem?_eq_none h'] at h; simp at h
    rw [hb.block g (by omega)]
    exact h
theorem GW.later {w w' : World} {B : Nat} (h : GW w) (hb : Below B w w') (hB : w.heap.size ≤ B) : GW w' := by
  obtain ⟨a, b, ⟨c1, c2, c⟩, ⟨d1, d2, d⟩⟩ := h
  exact ⟨a.later hb hB, var_later b hb hB, ⟨c1, c2, var_later c hb hB⟩, ⟨d1, d2, var_later d hb hB⟩⟩
theorem vars_read {w : World} : ∀ {l : List (String × DataW Unit)} {ps : List MemPlace}, DataW.LaidVars Tryd.prog w l ps → ∀ n d, (n, d) ∈ l →
    ∃ g t cs fuel p, Program.globalNamed Tryd.prog n = some g ∧ (Tryd.prog.globals[g]?).map (·.type) = some t ∧ w.var? Tryd.prog n = some cs ∧ DataW.trod (fun _ => ()) Tryd.prog w 0 (fun _ => true) false fuel t cs.toList = some (d, p)
  | [], _, _, _, _, hm => by cases hm
  | (n', d') :: r, ps, h, n, d, hm => by
    obtain ⟨g, t, cs, fuel, p, q, h1, h2, h3, h4, h5, _⟩ := h
    rcases List.mem_cons.1 hm with e | e
    · cases e
      exact ⟨g, t, cs, fuel, p, h1, h2, h3, h4⟩
    · exact vars_read h5 n d e
theorem err_var {w : World} {l : List (String × DataW Unit)} (h : laidMet Tryd.prog l w) {n u : String} {d : DataW Unit} (hm : (n, DataW.iface u d) ∈ l) (ht : ((Program.globalNamed Tryd.prog n).bind fun g => Tryd.prog.globals[g]?).map (·.type) = some 28) :
    ∃ tp p, w.var? Tryd.prog n = some #[.iface tp p] := by
  obtain ⟨g, t, cs, fuel, p, h1, h2, h3, h4⟩ := vars_read h.choose_spec.1 _ _ hm
  rw [h1] at ht
  obtain rfl : t = 28 := Option.some.inj (h2.symm.trans ht)
  rcases trod_if Tryd.underlying28 h4 with ⟨_, e⟩ | ⟨u, v, e⟩
  · cases e
  · refine ⟨u, v, ?_⟩
    rw [h3]
    have : cs = #[Value.iface u v] := by
      apply Array.ext'
      rw [e]
    rw [this]
theorem GW.of {w : World} {l : List (String × DataW Unit)} (hs : w.ShapedOpen Tryd.prog) (h : laidMetH Tryd.prog l w) (hp : (l.all fun x => x.2.handleName?.isNone) = true)
    (h1 : l.filter (fun x => x.1 == "internal/strconv.uint64pow10") = [("internal/strconv.uint64pow10", Lib.tabData .u64 Lib.pow10Tab)])
    {u1 u2 : String} {d1 d2 : DataW Unit} (h2 : ("strconv.ErrSyntax", DataW.iface u1 d1) ∈ l) (h3 : ("strconv.ErrRange", DataW.iface u2 d2) ∈ l) : GW w := by
  rw [MakeChecks.laidMetH_plain _ _ _ hp] at h
  refine ⟨Tryd.laysM146.s1_3 w hs, ?_, err_var h h2 (by kernel_rfl), err_var h h3 (by kernel_rfl)⟩
  have h4 := h.filter (fun x => x.1 == "internal/strconv.uint64pow10")
  rw [h1] at h4
  exact Lib.tabIs_of_head (g := 3) (t := 170) (n := 20) (e := 158) (by kernel_rfl) (by kernel_rfl) Tryd.underlying170 Tryd.underlying158 (by kernel_rfl) (by kernel_rfl) h4

theorem Itoa_any (n : Int) (w : World) (hg : GW w) (h0 : -9223372036854775808 ≤ n) (h1 : n ≤ 9223372036854775807) :
    Calls Tryd.prog 56 #[.int .i64 n] w fun e w' => e = .returned (.string (tx (Lib.itoa n))) ∧ Below w.heap.size w w' := by
  refine (Tryd.strconv_Itoa n h0 h1 w hg.tab).mono ?_
  rintro e w' ⟨rfl, k, os, rfl⟩
  exact ⟨rfl, Lib.below_grow _ w (Nat.le_refl _) k os⟩
/-- the number that Atoi hands back -/
def atoiV (l : List UInt8) : Int := match Lib.atoiAll l with
  | .ok v => v
  | .range => Lib.atoiSat l
  | _ => 0
def atoiOk (l : List UInt8) : Bool := match Lib.atoiAll l with
  | .ok _ => true
  | _ => false
def AtoiPost (l : List UInt8) (w : World) (e : Ending) (w' : World) : Prop :=
  (∃ ev, e = .returned (.tuple #[.int .i64 (atoiV l), ev]) ∧ ((atoiOk l = true ∧ ev = .nilIface) ∨ (atoiOk l = false ∧ ∃ t v, ev = .iface t v))) ∧ Below w.heap.size w w'
theorem Atoi_any (s : ByteArray) (w : World) (hg : GW w) (hs : s.size ≤ 1000000) :
    Calls Tryd.prog 81 #[.string s] w (AtoiPost s.data.toList w) := by
  unfold AtoiPost atoiV atoiOk
  cases h : Lib.atoiAll s.data.toList
  · refine (Tryd.strconv_Atoi_ok s (by omega) _ h w).mono ?_
    rintro e w' ⟨rfl, hw⟩
    refine ⟨⟨_, rfl, .inl ⟨rfl, rfl⟩⟩, ?_⟩
    rcases hw with rfl | ⟨t, rfl⟩
    · exact Below.refl _ _
    · exact Lib.bytesWorld_below _ _ _
  · obtain ⟨tp, p, hv⟩ := hg.es
    refine (Any.strconv_Atoi_syntax_var Tryd.laysC172 s (by omega) h tp p w hv).mono ?_
    rintro e w' ⟨N, rfl, _, _, hb⟩
    exact ⟨⟨_, rfl, .inr ⟨rfl, _, _, rfl⟩⟩, hb⟩
  · obtain ⟨tp, p, hv⟩ := hg.er
    refine (Tryd.strconv_Atoi_range_var s (by omega) h tp p w hv).mono ?_
    rintro e w' ⟨N, rfl, _, _, hb⟩
    exact ⟨⟨_, rfl, .inr ⟨rfl, _, _, rfl⟩⟩, hb⟩
theorem Cut_any (s : ByteArray) (c : UInt8) (w : World) (hg : GM w) (hs : s.size ≤ 1000000) :
    Calls Tryd.prog 98 #[.string s, .string ⟨#[c]⟩] w fun e w' => e = .returned (.tuple #[.string (tx (cutAt c s.data.toList).1), .string (tx (cutAt c s.data.toList).2.1), .bool (cutAt c s.data.toList).2.2]) ∧ Below w.heap.size w w' := by
  obtain ⟨m, hm⟩ := hg
  refine (Tryd.strings_Cut s ⟨#[c]⟩ m w (by omega) hm).mono ?_
  rintro e w' ⟨rfl, n, rfl⟩
  refine ⟨?_, below_drewN (Below.refl _ _) n⟩
  have e1 : Lib.cut s.data.toList (⟨#[c]⟩ : ByteArray).data.toList = cutAt c s.data.toList := cut_eq c s.data.toList
  rw [e1]
  rfl
end Go.Proofs.YtafogaopccajaaaDoor
namespace Go.Proofs.YtafogaopccajaaaDoor
open Go.RowKit

def numOk (l : List UInt8) : Bool := (numS l).isSome
theorem numOk_eq (l : List UInt8) : numOk l = (atoiOk l && decide (Lib.itoa (atoiV l) = l)) := by
  unfold numOk numS atoiOk atoiV
  cases h : Lib.atoiAll l
  · simp only [Bool.true_and]
    split <;> rename_i h2
    · rw [decide_eq_true h2]; rfl
    · rw [decide_eq_false h2]; rfl
  · rfl
  · rfl
theorem numOk_val {l : List UInt8} (h : numOk l = true) : numS l = some (atoiV l) := by
  have h2 := h
  rw [numOk_eq] at h2
  simp only [Bool.and_eq_true, decide_eq_true_eq] at h2
  unfold numOk at h
  obtain ⟨v, hv⟩ := Option.isSome_iff_exists.1 h
  rw [hv]
  unfold numS at hv
  unfold atoiV
  revert hv
  cases Lib.atoiAll l
  · intro hv
    simp only at hv ⊢
    split at hv
    · exact hv.symm
    · cases hv
  · intro hv; cases hv
  · intro hv; cases hv
theorem numOk_ref {l : List UInt8} : (refNum l).2 = numOk l := ref_fine l
theorem numOk_refv {l : List UInt8} (h : numOk l = true) : (refNum l).1 = atoiV l := by
  have := refNum_ok (numOk_val h)
  rw [this]
theorem atoiV_bd {l : List UInt8} : -9223372036854775808 ≤ atoiV l ∧ atoiV l ≤ 9223372036854775807 := by
  unfold atoiV
  cases h : Lib.atoiAll l
  · exact Lib.atoiAll_bounds h
  · exact ⟨show (-9223372036854775808 : Int) ≤ 0 by decide, show (0 : Int) ≤ 9223372036854775807 by decide⟩
  · exact Lib.atoiSat_bounds l
theorem numOk_bd {l : List UInt8} (h : numOk l = true) : -9223372036854775808 ≤ atoiV l ∧ atoiV l ≤ 9223372036854775807 := atoiV_bd
end Go.Proofs.YtafogaopccajaaaDoor
