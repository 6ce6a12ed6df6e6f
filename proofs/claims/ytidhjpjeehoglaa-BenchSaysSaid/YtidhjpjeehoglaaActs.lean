/- Acts: reading a slice of them; LightActs. -/
import Derived.Test.YtidhjpjeehoglaaOpen
import Derived.BigGuardPart
namespace Go.Proofs.Ytidhjpjeehoglaa
open Go.RowKit Go.ChangeShapes Go.WideShapes Go.ChangeAt

/-- An act: its kind, three numbers, a flag, two texts. -/
structure ActV where
  kind : ByteArray
  a : Int
  b : Int
  c : Int
  fold : Bool
  prog : ByteArray
  inp : ByteArray
deriving Inhabited
def encA (x : ActV) : List Value := [.string x.kind, .int .i64 x.a, .int .i64 x.b, .int .i64 x.c, .bool x.fold, .string x.prog, .string x.inp]
structure ActOk (x : ActV) : Prop where
  hk : x.kind.size ≤ maxLen
  ha : -9223372036854775808 ≤ x.a ∧ x.a ≤ 9223372036854775807
  hb : -9223372036854775808 ≤ x.b ∧ x.b ≤ 9223372036854775807
  hc : -9223372036854775808 ≤ x.c ∧ x.c ≤ 9223372036854775807
  hp : x.prog.size ≤ maxLen
  hi : x.inp.size ≤ maxLen
theorem Sl.act {w : World} {ao : Option Addr} {l : List ActV} (h : Sl 7 encA w ao l) {k : Nat} (hk : k < l.length) :
    ∃ b off x, ao = some ⟨b, off, none⟩ ∧ b < w.heap.size ∧ l[k]? = some x ∧ w.cell? ⟨b, off + k * 7, none⟩ = some (.string x.kind) ∧ w.cell? ⟨b, off + k * 7 + 1, none⟩ = some (.int .i64 x.a) ∧
      w.cell? ⟨b, off + k * 7 + 2, none⟩ = some (.int .i64 x.b) ∧ w.cell? ⟨b, off + k * 7 + 3, none⟩ = some (.int .i64 x.c) ∧ w.cell? ⟨b, off + k * 7 + 4, none⟩ = some (.bool x.fold) ∧
      w.cell? ⟨b, off + k * 7 + 5, none⟩ = some (.string x.prog) ∧ w.cell? ⟨b, off + k * 7 + 6, none⟩ = some (.string x.inp) := by
  obtain ⟨b, off, rfl, hb, hc⟩ := h (by omega)
  obtain ⟨x, hx⟩ : ∃ x, l[k]? = some x := ⟨l[k], by simp [hk]⟩
  exact ⟨b, off, x, rfl, hb, hx, hc k x 0 _ hx rfl, hc k x 1 _ hx rfl, hc k x 2 _ hx rfl, hc k x 3 _ hx rfl, hc k x 4 _ hx rfl, hc k x 5 _ hx rfl, hc k x 6 _ hx rfl⟩

section
variable {H : Type} {enc : TypeId × Value → H} {P : Program} {w : World} {base : Nat} {spare : Nat → Bool} {held : Bool}
theorem trod_struct7 {t : TypeId} {f0 f1 f2 f3 f4 f5 f6 : Field} {fuel : Nat} {cs : List Value} {x : DataW H × List MemPlace} (ht : P.underlying t = some (.struct #[f0, f1, f2, f3, f4, f5, f6])) (h : DataW.trod enc P w base spare held fuel t cs = some x) :
    ∃ y0 y1 y2 y3 y4 y5 y6 n, cs.length = P.cellsOf t ∧ DataW.trod enc P w base spare held n f0.type ((cs.drop f0.offset).take (P.cellsOf f0.type)) = some y0 ∧
      DataW.trod enc P w base spare held n f1.type ((cs.drop f1.offset).take (P.cellsOf f1.type)) = some y1 ∧ DataW.trod enc P w base spare held n f2.type ((cs.drop f2.offset).take (P.cellsOf f2.type)) = some y2 ∧
      DataW.trod enc P w base spare held n f3.type ((cs.drop f3.offset).take (P.cellsOf f3.type)) = some y3 ∧ DataW.trod enc P w base spare held n f4.type ((cs.drop f4.offset).take (P.cellsOf f4.type)) = some y4 ∧
      DataW.trod enc P w base spare held n f5.type ((cs.drop f5.offset).take (P.cellsOf f5.type)) = some y5 ∧ DataW.trod enc P w base spare held n f6.type ((cs.drop f6.offset).take (P.cellsOf f6.type)) = some y6 := by
  obtain ⟨xs, n, _, rfl, hl, hlen, hf⟩ := DataW.trod_struct ht h
  match xs, hlen with
  | [y0, y1, y2, y3, y4, y5, y6], _ => exact ⟨y0, y1, y2, y3, y4, y5, y6, n, hl, by simpa using hf 0 f0 rfl, by simpa using hf 1 f1 rfl, by simpa using hf 2 f2 rfl, by simpa using hf 3 f3 rfl, by simpa using hf 4 f4 rfl, by simpa using hf 5 f5 rfl, by simpa using hf 6 f6 rfl⟩
end
theorem cells_act : Try.prog.cellsOf 36 = 7 := by kernel_rfl
theorem cells_str : Try.prog.cellsOf 9 = 1 := by kernel_rfl
theorem cells_boo : Try.prog.cellsOf 4 = 1 := by kernel_rfl
set_option maxRecDepth 100000 in
theorem el_act {H : Type} {enc0 : TypeId × Value → H} {w : World} (fuel : Nat) (cs : List Value) (x) (h : DataW.trod enc0 Try.prog w 0 (fun _ => true) true fuel 36 cs = some x) : ∃ a : ActV, cs = encA a ∧ ActOk a := by
  obtain ⟨y0, y1, y2, y3, y4, y5, y6, n, hl, h0, h1, h2, h3, h4, h5, h6⟩ := trod_struct7 Try.underlying36 h
  obtain ⟨v0, e0, _, b0⟩ := DataW.trod_string Try.underlying9 h0
  obtain ⟨v1, e1, _, b1⟩ := DataW.trod_int Try.underlying3 h1
  obtain ⟨v2, e2, _, b2⟩ := DataW.trod_int Try.underlying3 h2
  obtain ⟨v3, e3, _, b3⟩ := DataW.trod_int Try.underlying3 h3
  obtain ⟨v4, e4, _⟩ := DataW.trod_bool Try.underlying4 h4
  obtain ⟨v5, e5, _, b5⟩ := DataW.trod_string Try.underlying9 h5
  obtain ⟨v6, e6, _, b6⟩ := DataW.trod_string Try.underlying9 h6
  rw [cells_act] at hl
  dsimp only at e0 e1 e2 e3 e4 e5 e6
  rw [cells_int] at e1 e2 e3
  rw [cells_str] at e0 e5 e6
  rw [cells_boo] at e4
  match cs, hl with
  | [c0, c1, c2, c3, c4, c5, c6], _ =>
    simp at e0 e1 e2 e3 e4 e5 e6
    exact ⟨⟨v0, v1, v2, v3, v4, v5, v6⟩, by rw [e0, e1, e2, e3, e4, e5, e6]; rfl, ⟨b0, by have := bounds_i64 b1; omega, by have := bounds_i64 b2; omega, by have := bounds_i64 b3; omega, b5, b6⟩⟩

def lightPost (w : World) (l : List ActV) (e : Ending) (w' : World) : Prop := ∃ b : Bool, e = .returned (.bool b) ∧ w = w' ∧ (b = true → l.length ≤ 80 ∧ ∀ x ∈ l, x.prog.size ≤ 900 ∧ x.inp.size ≤ 3000)
set_option maxHeartbeats 1000000 in
theorem LightActs_any (ao : Option Addr) (cap : Nat) (l : List ActV) (w : World) (hl : l.length ≤ maxLen) (hok : ∀ x ∈ l, ActOk x) (hs : Sl 7 encA w ao l) :
    Calls Try.prog 7 #[.slice ao l.length cap, .int .i64 80] w fun e w' => lightPost w l e w' := by
  unfold maxLen at hl
  by_cases hm : l.length ≤ 80
  · have HOKL := hide hok; clear hok
    go_enter Try.func7, Try.ntmps7
    go_wp2
    go_loop [5, 6] (fun n i => ∃ k : Nat, ∃ m : Nat, k ≤ l.length ∧ i = .int .i64 k ∧ n = .int .i64 m ∧ m ≤ 9000 ∧ ∀ (i : Nat) x, i < k → l[i]? = some x → x.prog.size ≤ 900 ∧ x.inp.size ≤ 3000) (fun _ i => l.length - (intOf i).toNat)
    case atStart => exact ⟨0, 0, by omega, rfl, rfl, by omega, fun i x h => absurd h (by omega)⟩
    case round =>
      obtain ⟨k, m, hk, rfl, rfl, hm9, hok⟩ := hrel
      have HOK := hide hok; clear hok
      by_cases hlt : k < l.length
      · obtain ⟨b, off, x, rfl, hbw, hlk, c0, c1, c2, c3, c4, c5, c6⟩ := hs.act hlt
        obtain ⟨z1, _, _, _, z5, z6⟩ := HOKL.out x (List.mem_of_getElem? hlk)
        unfold maxLen at z1 z5 z6
        have Hlk := hide hlk; clear hlk
        by_cases h1 : 900 < x.prog.size
        · have f1 : decide ((900 : Int) < (x.prog.size : Int)) = true := by simp; omega
          go_wp2
          go_ret
          exact ⟨false, rfl, rfl, by simp⟩
        · have f1 : decide ((900 : Int) < (x.prog.size : Int)) = false := by simp; omega
          by_cases h2 : 3000 < x.inp.size
          · have f2 : decide ((3000 : Int) < (x.inp.size : Int)) = true := by simp; omega
            go_wp2
            go_ret
            exact ⟨false, rfl, rfl, by simp⟩
          · have f2 : decide ((3000 : Int) < (x.inp.size : Int)) = false := by simp; omega
            by_cases h3 : 9000 < m + x.inp.size
            · have f3 : decide ((9000 : Int) < (m : Int) + (x.inp.size : Int)) = true := by simp; omega
              go_wp2
              go_ret
              exact ⟨false, rfl, rfl, by simp⟩
            · have f3 : decide ((9000 : Int) < (m : Int) + (x.inp.size : Int)) = false := by simp; omega
              go_wp2
              go_round
              case rel => exact ⟨k+1, m + x.inp.size, by omega, by go_num, by go_num, by omega, fun i z hi hz => by
                  by_cases e : i = k
                  · subst e; rw [Hlk.out] at hz; cases hz; omega
                  · exact HOK.out i z (by omega) hz⟩
              case measure => simp [intOf]; omega
      · go_wp2
        go_ret
        refine ⟨true, rfl, rfl, fun _ => ⟨hm, fun x hx => ?_⟩⟩
        obtain ⟨i, hi⟩ := List.getElem?_of_mem hx
        exact HOK.out i x (by have := (List.getElem?_eq_some_iff.1 hi).1; omega) hi
  · go_enter Try.func7, Try.ntmps7
    go_wp2
    go_ret
    exact ⟨false, rfl, rfl, by simp⟩
end Go.Proofs.Ytidhjpjeehoglaa
