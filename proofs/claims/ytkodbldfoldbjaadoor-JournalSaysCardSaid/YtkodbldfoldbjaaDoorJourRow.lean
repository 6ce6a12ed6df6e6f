/- The journal: entries that come in as arguments. -/
import Derived.Test.YtkodbldfoldbjaaDoorJourLaw
import Derived.Test.YtkodbldfoldbjaaDoorTexts
import Derived.Test.YtkodbldfoldbjaaDoorRows2
import Derived.Test.YtkodbldfoldbjaaDoorOpen
set_option linter.unusedSimpArgs false
set_option linter.unusedVariables false
namespace Go.Proofs.YtkodbldfoldbjaaDoor
open Go.RowKit Go.ChangeShapes Go.WideShapes Go.ChangeAt

/-- an entry as it lies: its kind, numbers and texts, and where these lie -/
abbrev EnR := ByteArray × (Option Addr × Nat × List Int) × (Option Addr × Nat × List ByteArray)
def enOfR (r : EnR) : En := (r.1, r.2.1.2.2, r.2.2.2.2)
def encEn (r : EnR) : List Value := [.string r.1, .slice r.2.1.1 r.2.1.2.2.length r.2.1.2.1, .slice r.2.2.1 r.2.2.2.2.length r.2.2.2.1]
theorem encEn_len (r : EnR) : (encEn r).length = 3 := rfl
theorem one_en : ∀ x, ∀ u ∈ encEn x, u.oneCell' = true := fun x u h => by
  simp [encEn] at h
  rcases h with h | h | h <;> subst h <;> rfl
theorem Sl.entry {w : World} {ao : Option Addr} {l : List EnR} (h : Sl 3 encEn w ao l) {k : Nat} (hk : k < l.length) :
    ∃ b off r, ao = some ⟨b, off, none⟩ ∧ b < w.heap.size ∧ l[k]? = some r ∧ w.cell? ⟨b, off + k * 3, none⟩ = some (.string r.1) ∧ w.cell? ⟨b, off + k * 3 + 1, none⟩ = some (.slice r.2.1.1 r.2.1.2.2.length r.2.1.2.1) ∧ w.cell? ⟨b, off + k * 3 + 2, none⟩ = some (.slice r.2.2.1 r.2.2.2.2.length r.2.2.2.1) := by
  obtain ⟨b, off, e, hlt, hc⟩ := h (by omega)
  have hx : l[k]? = some l[k] := by simp [hk]
  exact ⟨b, off, l[k], e, hlt, hx, hc k _ 0 _ hx rfl, hc k _ 1 _ hx rfl, hc k _ 2 _ hx rfl⟩
/-- an entry that can be read -/
structure EnArg (w : World) (r : EnR) : Prop where
  kind : r.1.size ≤ maxLen
  nums : Sl 1 encInt w r.2.1.1 r.2.1.2.2
  texts : Sl 1 encS w r.2.2.1 r.2.2.2.2
  nlen : r.2.1.2.2.length ≤ maxLen
  tlen : r.2.2.2.2.length ≤ maxLen
  i64 : i64s r.2.1.2.2
  size : ∀ t ∈ r.2.2.2.2, t.size ≤ maxLen
  cap : r.2.2.2.2.length ≤ r.2.2.2.1
theorem EnArg.later {w w' : World} {r : EnR} {B : Nat} (h : EnArg w r) (hb : Below B w w') (hB : w.heap.size ≤ B) : EnArg w' r :=
  ⟨h.kind, h.nums.later hb hB, h.texts.later hb hB, h.nlen, h.tlen, h.i64, h.size, h.cap⟩
theorem slc_cap {H : Type} {enc0 : TypeId × Value → H} {P : Program} {w : World} {t e : TypeId} {ao : Option Addr} {n cap fuel : Nat} {x : DataW H × List MemPlace} (ht : P.underlying t = some (.slice e)) (h : DataW.trod enc0 P w 0 (fun _ => true) true fuel t [.slice ao n cap] = some x) : n ≤ cap := by
  rcases Deep.open_slice ht h with ⟨hcs, _⟩ | ⟨a', len', cap', m, k, D, Pl, hcs, _, hl, _⟩
  · cases hcs; exact Nat.le_refl _
  · cases hcs; exact hl
theorem el_str {H : Type} {enc0 : TypeId × Value → H} {w : World} (fuel : Nat) (cs : List Value) (x) (h : DataW.trod enc0 Tryd.prog w 0 (fun _ => true) true fuel 9 cs = some x) : ∃ a : ByteArray, cs = encS a ∧ a.size ≤ maxLen := by
  obtain ⟨a, e0, _, hs⟩ := DataW.trod_string Tryd.underlying9 h
  exact ⟨a, e0, hs⟩
theorem cells_entry : Tryd.prog.cellsOf 73 = 3 := by kernel_rfl
theorem cells_ints : Tryd.prog.cellsOf 61 = 1 := by kernel_rfl
theorem cells_strs : Tryd.prog.cellsOf 33 = 1 := by kernel_rfl
theorem cells_str1 : Tryd.prog.cellsOf 9 = 1 := by kernel_rfl
set_option maxRecDepth 100000 in
theorem el_entry {H : Type} {enc0 : TypeId × Value → H} {w : World} (fuel : Nat) (cs : List Value) (x) (h : DataW.trod enc0 Tryd.prog w 0 (fun _ => true) true fuel 73 cs = some x) : ∃ r : EnR, cs = encEn r ∧ EnArg w r := by
  obtain ⟨xs, n, _, rfl, hl, hlen, hf⟩ := DataW.trod_struct Tryd.underlying73 h
  match xs, hlen with
  | [y0, y1, y2], _ =>
    have h0 := by simpa using hf 0 _ rfl
    have h1 := by simpa using hf 1 _ rfl
    have h2 := by simpa using hf 2 _ rfl
    obtain ⟨k, e0, _, hk⟩ := DataW.trod_string Tryd.underlying9 h0
    rw [cells_entry] at hl
    try dsimp only at e0 h1 h2
    rw [cells_str1] at e0
    rw [cells_ints] at h1
    rw [cells_strs] at h2
    match cs, hl with
    | [c0, c1, c2], _ =>
      simp at e0
      have h1' : DataW.trod enc0 Tryd.prog w 0 (fun _ => true) true n 61 [c1] = some y1 := by simpa using h1
      have h2' : DataW.trod enc0 Tryd.prog w 0 (fun _ => true) true n 33 [c2] = some y2 := by simpa using h2
      obtain ⟨na, nc, N, hc1, _, hsn, hnl, hN⟩ := open_slc Tryd.underlying61 cells_int (by decide) el_int h1'
      obtain ⟨ta, tc, T, hc2, _, hst, htl, hT⟩ := open_slc Tryd.underlying33 cells_str1 (by decide) el_str h2'
      obtain rfl : c1 = .slice na N.length nc := by simpa using hc1
      obtain rfl : c2 = .slice ta T.length tc := by simpa using hc2
      exact ⟨(k, (na, nc, N), (ta, tc, T)), by rw [e0]; rfl, hk, hsn, hst, hnl, htl, hN, hT, slc_cap Tryd.underlying33 h2'⟩
end Go.Proofs.YtkodbldfoldbjaaDoor
