/-
  DERIVED. GIVEN WITH THE SEED: THE CARDS: each row of YtjkggijkccbcpaaDoorRows.lean that lists a variable, with what it lists TIED to the program's text (the seventh form; the later family's looks); each row that meets fmt, with fmt's text TOLD by the authors' own Lean function (tested against real Go, not proved from fmt's source: count such statements apart). THE CARD IS WHAT COUNTS. Prove the row's statement (the work); the ties are given (YtjkggijkccbcpaaDoorTie.lean); close each card by the builder's one call (the guide's Derived/Test/ToyasCard.lean, 'card_holds'). Laid BY PROGRAM, IN A SANDBOX (cutbox-door.mjs). By AI agents, Wed Nov 11 2026. No macro, syntax, notation, axiom, sorry.
-/
import Derived.Test.YtjkggijkccbcpaaDoorRows
import GoSem.ClaimSeven
namespace Go.Proofs.YtjkggijkccbcpaaDoor
namespace Rows

/-- THE TIED CARD OF 'threshfloortop.TopEarly'. -/
def topEarlyCard : Claim7 := { stood := { row := topEarlyRow, standIns := [], harness := (true, "4097329ae4895539a17ec82206c4165be689bdf72f8c1949d8b38ee86bd9c762"), looks := true }, kinds := [], alts := [], laidByText := true, laidKinds := [.data, .data, .data, .data, .pinned], laidTests := true, laidLooks := .later }
def TopEarlyCardSaid : Prop := Claim7.holds Tryd.pinned (.plain (OpenSpec.ofChange topEarlySpec)) topEarlyCard

/-- THE TIED CARD OF 'threshfloortop.TopJob'. -/
def topJobCard : Claim7 := { stood := { row := topJobRow, standIns := [], harness := (true, "4097329ae4895539a17ec82206c4165be689bdf72f8c1949d8b38ee86bd9c762"), looks := true }, kinds := [], alts := [], laidByText := true, laidKinds := [.data, .data, .data, .data, .sentinel, .sentinel, .pinned], laidTests := true, laidLooks := .later }
def TopJobCardSaid : Prop := Claim7.holds Tryd.pinned (.plain (OpenSpec.ofChange topJobSpec)) topJobCard

/-- THE SECOND FORM's CARD OF 'threshfloortop.TopEarly'. -/
def topEarlyUptoCard : Claim7 := { stood := { row := topEarlyUptoRow, standIns := [], harness := (true, "4097329ae4895539a17ec82206c4165be689bdf72f8c1949d8b38ee86bd9c762"), looks := true }, kinds := [], alts := [], laidByText := true, laidKinds := [.data, .data, .data, .data, .pinned], laidTests := true, laidLooks := .later }
def TopEarlyUptoCardSaid : Prop := Claim7.holds Tryd.pinned (.plain (OpenSpec.upto topEarlySpec)) topEarlyUptoCard

/-- THE SECOND FORM's CARD OF 'threshfloortop.TopJob'. -/
def topJobUptoCard : Claim7 := { stood := { row := topJobUptoRow, standIns := [], harness := (true, "4097329ae4895539a17ec82206c4165be689bdf72f8c1949d8b38ee86bd9c762"), looks := true }, kinds := [], alts := [], laidByText := true, laidKinds := [.data, .data, .data, .data, .sentinel, .sentinel, .pinned], laidTests := true, laidLooks := .later }
def TopJobUptoCardSaid : Prop := Claim7.holds Tryd.pinned (.plain (OpenSpec.upto topJobSpec)) topJobUptoCard
end Rows
end Go.Proofs.YtjkggijkccbcpaaDoor
