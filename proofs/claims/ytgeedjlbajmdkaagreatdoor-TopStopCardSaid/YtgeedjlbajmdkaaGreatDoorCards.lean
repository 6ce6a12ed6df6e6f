/-
  DERIVED. GIVEN WITH THE SEED: THE CARDS: each row of YtgeedjlbajmdkaaGreatDoorRows.lean that lists a variable, with what it lists TIED to the program's text (the seventh form; the later family's looks); each row that meets fmt, with fmt's text TOLD by the authors' own Lean function (tested against real Go, not proved from fmt's source: count such statements apart). THE CARD IS WHAT COUNTS. Prove the row's statement (the work); the ties are given (YtgeedjlbajmdkaaGreatDoorTie.lean); close each card by the builder's one call (the guide's Derived/Test/ToyasCard.lean, 'card_holds'). Laid BY PROGRAM, IN A SANDBOX (cutbox-door.mjs). By AI agents, Wed Nov 11 2026. No macro, syntax, notation, axiom, sorry.
-/
import Derived.Test.YtgeedjlbajmdkaaGreatDoorRows
import GoSem.ClaimSeven
namespace Go.Proofs.YtgeedjlbajmdkaaGreatDoor
namespace Rows

/-- THE TIED CARD OF 'threshfloorlaw.JobSays'. -/
def jobSaysCard : Claim7 := { stood := { row := jobSaysRow, standIns := [], harness := (true, "0017204b57cb13294c7e9d3723a5d71a3a709068afaa0739d46e5ec56ad9c7e2"), looks := true }, kinds := [], alts := [], laidByText := true, laidKinds := [.data, .data, .data, .data, .sentinel, .sentinel, .pinned], laidTests := true, laidLooks := .later }
def JobSaysCardSaid : Prop := Claim7.holds Tryz.pinned (.plain (OpenSpec.ofChange jobSaysSpec)) jobSaysCard

/-- THE TIED CARD OF 'threshfloorlaw.MapSays'. -/
def mapSaysCard : Claim7 := { stood := { row := mapSaysRow, standIns := [], harness := (true, "0017204b57cb13294c7e9d3723a5d71a3a709068afaa0739d46e5ec56ad9c7e2"), looks := true }, kinds := [], alts := [], laidByText := true, laidKinds := [.data, .data, .data, .data, .sentinel, .sentinel, .pinned], laidTests := true, laidLooks := .later }
def MapSaysCardSaid : Prop := Claim7.holds Tryz.pinned (.plain (OpenSpec.ofChange mapSaysSpec)) mapSaysCard

/-- THE TIED CARD OF 'threshfloortop.TopStop'. -/
def topStopCard : Claim7 := { stood := { row := topStopRow, standIns := [], harness := (true, "0017204b57cb13294c7e9d3723a5d71a3a709068afaa0739d46e5ec56ad9c7e2"), looks := true }, kinds := [], alts := [], laidByText := true, laidKinds := [.data, .data, .data, .data, .sentinel, .sentinel, .pinned], laidTests := true, laidLooks := .later }
def TopStopCardSaid : Prop := Claim7.holds Tryz.pinned (.plain (OpenSpec.ofChange topStopSpec)) topStopCard

/-- THE SECOND FORM's CARD OF 'threshfloorlaw.JobSays'. -/
def jobSaysUptoCard : Claim7 := { stood := { row := jobSaysUptoRow, standIns := [], harness := (true, "0017204b57cb13294c7e9d3723a5d71a3a709068afaa0739d46e5ec56ad9c7e2"), looks := true }, kinds := [], alts := [], laidByText := true, laidKinds := [.data, .data, .data, .data, .sentinel, .sentinel, .pinned], laidTests := true, laidLooks := .later }
def JobSaysUptoCardSaid : Prop := Claim7.holds Tryz.pinned (.plain (OpenSpec.upto jobSaysSpec)) jobSaysUptoCard

/-- THE SECOND FORM's CARD OF 'threshfloorlaw.MapSays'. -/
def mapSaysUptoCard : Claim7 := { stood := { row := mapSaysUptoRow, standIns := [], harness := (true, "0017204b57cb13294c7e9d3723a5d71a3a709068afaa0739d46e5ec56ad9c7e2"), looks := true }, kinds := [], alts := [], laidByText := true, laidKinds := [.data, .data, .data, .data, .sentinel, .sentinel, .pinned], laidTests := true, laidLooks := .later }
def MapSaysUptoCardSaid : Prop := Claim7.holds Tryz.pinned (.plain (OpenSpec.upto mapSaysSpec)) mapSaysUptoCard

/-- THE SECOND FORM's CARD OF 'threshfloortop.TopStop'. -/
def topStopUptoCard : Claim7 := { stood := { row := topStopUptoRow, standIns := [], harness := (true, "0017204b57cb13294c7e9d3723a5d71a3a709068afaa0739d46e5ec56ad9c7e2"), looks := true }, kinds := [], alts := [], laidByText := true, laidKinds := [.data, .data, .data, .data, .sentinel, .sentinel, .pinned], laidTests := true, laidLooks := .later }
def TopStopUptoCardSaid : Prop := Claim7.holds Tryz.pinned (.plain (OpenSpec.upto topStopSpec)) topStopUptoCard
end Rows
end Go.Proofs.YtgeedjlbajmdkaaGreatDoor
