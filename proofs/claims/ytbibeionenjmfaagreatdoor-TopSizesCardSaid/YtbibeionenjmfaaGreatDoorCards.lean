/-
  DERIVED. GIVEN WITH THE SEED: THE CARDS: each row of YtbibeionenjmfaaGreatDoorRows.lean that lists a variable, with what it lists TIED to the program's text (the seventh form; the later family's looks); each row that meets fmt, with fmt's text TOLD by the authors' own Lean function (tested against real Go, not proved from fmt's source: count such statements apart). THE CARD IS WHAT COUNTS. Prove the row's statement (the work); the ties are given (YtbibeionenjmfaaGreatDoorTie.lean); close each card by the builder's one call (the guide's Derived/Test/ToyasCard.lean, 'card_holds'). Laid BY PROGRAM, IN A SANDBOX (cutbox-door.mjs). By AI agents, Wed Nov 11 2026. No macro, syntax, notation, axiom, sorry.
-/
import Derived.Test.YtbibeionenjmfaaGreatDoorRows
import GoSem.ClaimSeven
namespace Go.Proofs.YtbibeionenjmfaaGreatDoor
namespace Rows

/-- THE TIED CARD OF 'threshfloortop.TopMany'. -/
def topManyCard : Claim7 := { stood := { row := topManyRow, standIns := [], harness := (true, "a5a2560daa04d859fc58993e1f3cb37979446f327ebd9fe2cfdcc5779ac24e50"), looks := true }, kinds := [], alts := [], laidByText := true, laidKinds := [.data, .data, .data, .data, .sentinel, .sentinel, .pinned], laidTests := true, laidLooks := .later }
def TopManyCardSaid : Prop := Claim7.holds Tryz.pinned (.plain (OpenSpec.ofChange topManySpec)) topManyCard

/-- THE TIED CARD OF 'threshfloortop.TopSizes'. -/
def topSizesCard : Claim7 := { stood := { row := topSizesRow, standIns := [], harness := (true, "a5a2560daa04d859fc58993e1f3cb37979446f327ebd9fe2cfdcc5779ac24e50"), looks := true }, kinds := [], alts := [], laidByText := true, laidKinds := [.data, .data, .data, .data, .sentinel, .sentinel, .pinned], laidTests := true, laidLooks := .later }
def TopSizesCardSaid : Prop := Claim7.holds Tryz.pinned (.plain (OpenSpec.ofChange topSizesSpec)) topSizesCard

/-- THE TIED CARD OF 'threshfloortop.TopAgain'. -/
def topAgainCard : Claim7 := { stood := { row := topAgainRow, standIns := [], harness := (true, "a5a2560daa04d859fc58993e1f3cb37979446f327ebd9fe2cfdcc5779ac24e50"), looks := true }, kinds := [], alts := [], laidByText := true, laidKinds := [.data, .data, .data, .data, .sentinel, .sentinel, .pinned], laidTests := true, laidLooks := .later }
def TopAgainCardSaid : Prop := Claim7.holds Tryz.pinned (.plain (OpenSpec.ofChange topAgainSpec)) topAgainCard

/-- THE TIED CARD OF 'threshfloortop.TopResume'. -/
def topResumeCard : Claim7 := { stood := { row := topResumeRow, standIns := [], harness := (true, "a5a2560daa04d859fc58993e1f3cb37979446f327ebd9fe2cfdcc5779ac24e50"), looks := true }, kinds := [], alts := [], laidByText := true, laidKinds := [.data, .data, .data, .data, .sentinel, .sentinel, .pinned], laidTests := true, laidLooks := .later }
def TopResumeCardSaid : Prop := Claim7.holds Tryz.pinned (.plain (OpenSpec.ofChange topResumeSpec)) topResumeCard

/-- THE TIED CARD OF 'threshfloortop.TopCrash'. -/
def topCrashCard : Claim7 := { stood := { row := topCrashRow, standIns := [], harness := (true, "a5a2560daa04d859fc58993e1f3cb37979446f327ebd9fe2cfdcc5779ac24e50"), looks := true }, kinds := [], alts := [], laidByText := true, laidKinds := [.data, .data, .data, .data, .sentinel, .sentinel, .pinned], laidTests := true, laidLooks := .later }
def TopCrashCardSaid : Prop := Claim7.holds Tryz.pinned (.plain (OpenSpec.ofChange topCrashSpec)) topCrashCard

/-- THE TIED CARD OF 'threshfloortop.TopCap'. -/
def topCapCard : Claim7 := { stood := { row := topCapRow, standIns := [], harness := (true, "a5a2560daa04d859fc58993e1f3cb37979446f327ebd9fe2cfdcc5779ac24e50"), looks := true }, kinds := [], alts := [], laidByText := true, laidKinds := [.data, .data, .data, .data, .sentinel, .sentinel, .pinned], laidTests := true, laidLooks := .later }
def TopCapCardSaid : Prop := Claim7.holds Tryz.pinned (.plain (OpenSpec.ofChange topCapSpec)) topCapCard

/-- THE TIED CARD OF 'threshfloortop.TopFair'. -/
def topFairCard : Claim7 := { stood := { row := topFairRow, standIns := [], harness := (true, "a5a2560daa04d859fc58993e1f3cb37979446f327ebd9fe2cfdcc5779ac24e50"), looks := true }, kinds := [], alts := [], laidByText := true, laidKinds := [.data, .data, .data, .data, .sentinel, .sentinel, .pinned], laidTests := true, laidLooks := .later }
def TopFairCardSaid : Prop := Claim7.holds Tryz.pinned (.plain (OpenSpec.ofChange topFairSpec)) topFairCard

/-- THE TIED CARD OF 'threshfloortop.TopSame'. -/
def topSameCard : Claim7 := { stood := { row := topSameRow, standIns := [], harness := (true, "a5a2560daa04d859fc58993e1f3cb37979446f327ebd9fe2cfdcc5779ac24e50"), looks := true }, kinds := [], alts := [], laidByText := true, laidKinds := [.data, .data, .data, .data, .sentinel, .sentinel, .pinned], laidTests := true, laidLooks := .later }
def TopSameCardSaid : Prop := Claim7.holds Tryz.pinned (.plain (OpenSpec.ofChange topSameSpec)) topSameCard

/-- THE TIED CARD OF 'threshfloortop.TopStatus'. -/
def topStatusCard : Claim7 := { stood := { row := topStatusRow, standIns := [], harness := (true, "a5a2560daa04d859fc58993e1f3cb37979446f327ebd9fe2cfdcc5779ac24e50"), looks := true }, kinds := [], alts := [], laidByText := true, laidKinds := [.data, .data, .data, .data, .sentinel, .sentinel, .pinned], laidTests := true, laidLooks := .later }
def TopStatusCardSaid : Prop := Claim7.holds Tryz.pinned (.plain (OpenSpec.ofChange topStatusSpec)) topStatusCard

/-- THE TIED CARD OF 'threshfloortop.TopOnce'. -/
def topOnceCard : Claim7 := { stood := { row := topOnceRow, standIns := [], harness := (true, "a5a2560daa04d859fc58993e1f3cb37979446f327ebd9fe2cfdcc5779ac24e50"), looks := true }, kinds := [], alts := [], laidByText := true, laidKinds := [.data, .data, .data, .data, .sentinel, .sentinel, .pinned], laidTests := true, laidLooks := .later }
def TopOnceCardSaid : Prop := Claim7.holds Tryz.pinned (.plain (OpenSpec.ofChange topOnceSpec)) topOnceCard

/-- THE TIED CARD OF 'threshfloortop.TopRecover'. -/
def topRecoverCard : Claim7 := { stood := { row := topRecoverRow, standIns := [], harness := (true, "a5a2560daa04d859fc58993e1f3cb37979446f327ebd9fe2cfdcc5779ac24e50"), looks := true }, kinds := [], alts := [], laidByText := true, laidKinds := [.data, .data, .data, .data, .sentinel, .sentinel, .pinned], laidTests := true, laidLooks := .later }
def TopRecoverCardSaid : Prop := Claim7.holds Tryz.pinned (.plain (OpenSpec.ofChange topRecoverSpec)) topRecoverCard

/-- THE SECOND FORM's CARD OF 'threshfloortop.TopMany'. -/
def topManyUptoCard : Claim7 := { stood := { row := topManyUptoRow, standIns := [], harness := (true, "a5a2560daa04d859fc58993e1f3cb37979446f327ebd9fe2cfdcc5779ac24e50"), looks := true }, kinds := [], alts := [], laidByText := true, laidKinds := [.data, .data, .data, .data, .sentinel, .sentinel, .pinned], laidTests := true, laidLooks := .later }
def TopManyUptoCardSaid : Prop := Claim7.holds Tryz.pinned (.plain (OpenSpec.upto topManySpec)) topManyUptoCard

/-- THE SECOND FORM's CARD OF 'threshfloortop.TopSizes'. -/
def topSizesUptoCard : Claim7 := { stood := { row := topSizesUptoRow, standIns := [], harness := (true, "a5a2560daa04d859fc58993e1f3cb37979446f327ebd9fe2cfdcc5779ac24e50"), looks := true }, kinds := [], alts := [], laidByText := true, laidKinds := [.data, .data, .data, .data, .sentinel, .sentinel, .pinned], laidTests := true, laidLooks := .later }
def TopSizesUptoCardSaid : Prop := Claim7.holds Tryz.pinned (.plain (OpenSpec.upto topSizesSpec)) topSizesUptoCard

/-- THE SECOND FORM's CARD OF 'threshfloortop.TopAgain'. -/
def topAgainUptoCard : Claim7 := { stood := { row := topAgainUptoRow, standIns := [], harness := (true, "a5a2560daa04d859fc58993e1f3cb37979446f327ebd9fe2cfdcc5779ac24e50"), looks := true }, kinds := [], alts := [], laidByText := true, laidKinds := [.data, .data, .data, .data, .sentinel, .sentinel, .pinned], laidTests := true, laidLooks := .later }
def TopAgainUptoCardSaid : Prop := Claim7.holds Tryz.pinned (.plain (OpenSpec.upto topAgainSpec)) topAgainUptoCard

/-- THE SECOND FORM's CARD OF 'threshfloortop.TopResume'. -/
def topResumeUptoCard : Claim7 := { stood := { row := topResumeUptoRow, standIns := [], harness := (true, "a5a2560daa04d859fc58993e1f3cb37979446f327ebd9fe2cfdcc5779ac24e50"), looks := true }, kinds := [], alts := [], laidByText := true, laidKinds := [.data, .data, .data, .data, .sentinel, .sentinel, .pinned], laidTests := true, laidLooks := .later }
def TopResumeUptoCardSaid : Prop := Claim7.holds Tryz.pinned (.plain (OpenSpec.upto topResumeSpec)) topResumeUptoCard

/-- THE SECOND FORM's CARD OF 'threshfloortop.TopCrash'. -/
def topCrashUptoCard : Claim7 := { stood := { row := topCrashUptoRow, standIns := [], harness := (true, "a5a2560daa04d859fc58993e1f3cb37979446f327ebd9fe2cfdcc5779ac24e50"), looks := true }, kinds := [], alts := [], laidByText := true, laidKinds := [.data, .data, .data, .data, .sentinel, .sentinel, .pinned], laidTests := true, laidLooks := .later }
def TopCrashUptoCardSaid : Prop := Claim7.holds Tryz.pinned (.plain (OpenSpec.upto topCrashSpec)) topCrashUptoCard

/-- THE SECOND FORM's CARD OF 'threshfloortop.TopCap'. -/
def topCapUptoCard : Claim7 := { stood := { row := topCapUptoRow, standIns := [], harness := (true, "a5a2560daa04d859fc58993e1f3cb37979446f327ebd9fe2cfdcc5779ac24e50"), looks := true }, kinds := [], alts := [], laidByText := true, laidKinds := [.data, .data, .data, .data, .sentinel, .sentinel, .pinned], laidTests := true, laidLooks := .later }
def TopCapUptoCardSaid : Prop := Claim7.holds Tryz.pinned (.plain (OpenSpec.upto topCapSpec)) topCapUptoCard

/-- THE SECOND FORM's CARD OF 'threshfloortop.TopFair'. -/
def topFairUptoCard : Claim7 := { stood := { row := topFairUptoRow, standIns := [], harness := (true, "a5a2560daa04d859fc58993e1f3cb37979446f327ebd9fe2cfdcc5779ac24e50"), looks := true }, kinds := [], alts := [], laidByText := true, laidKinds := [.data, .data, .data, .data, .sentinel, .sentinel, .pinned], laidTests := true, laidLooks := .later }
def TopFairUptoCardSaid : Prop := Claim7.holds Tryz.pinned (.plain (OpenSpec.upto topFairSpec)) topFairUptoCard

/-- THE SECOND FORM's CARD OF 'threshfloortop.TopSame'. -/
def topSameUptoCard : Claim7 := { stood := { row := topSameUptoRow, standIns := [], harness := (true, "a5a2560daa04d859fc58993e1f3cb37979446f327ebd9fe2cfdcc5779ac24e50"), looks := true }, kinds := [], alts := [], laidByText := true, laidKinds := [.data, .data, .data, .data, .sentinel, .sentinel, .pinned], laidTests := true, laidLooks := .later }
def TopSameUptoCardSaid : Prop := Claim7.holds Tryz.pinned (.plain (OpenSpec.upto topSameSpec)) topSameUptoCard

/-- THE SECOND FORM's CARD OF 'threshfloortop.TopStatus'. -/
def topStatusUptoCard : Claim7 := { stood := { row := topStatusUptoRow, standIns := [], harness := (true, "a5a2560daa04d859fc58993e1f3cb37979446f327ebd9fe2cfdcc5779ac24e50"), looks := true }, kinds := [], alts := [], laidByText := true, laidKinds := [.data, .data, .data, .data, .sentinel, .sentinel, .pinned], laidTests := true, laidLooks := .later }
def TopStatusUptoCardSaid : Prop := Claim7.holds Tryz.pinned (.plain (OpenSpec.upto topStatusSpec)) topStatusUptoCard

/-- THE SECOND FORM's CARD OF 'threshfloortop.TopOnce'. -/
def topOnceUptoCard : Claim7 := { stood := { row := topOnceUptoRow, standIns := [], harness := (true, "a5a2560daa04d859fc58993e1f3cb37979446f327ebd9fe2cfdcc5779ac24e50"), looks := true }, kinds := [], alts := [], laidByText := true, laidKinds := [.data, .data, .data, .data, .sentinel, .sentinel, .pinned], laidTests := true, laidLooks := .later }
def TopOnceUptoCardSaid : Prop := Claim7.holds Tryz.pinned (.plain (OpenSpec.upto topOnceSpec)) topOnceUptoCard

/-- THE SECOND FORM's CARD OF 'threshfloortop.TopRecover'. -/
def topRecoverUptoCard : Claim7 := { stood := { row := topRecoverUptoRow, standIns := [], harness := (true, "a5a2560daa04d859fc58993e1f3cb37979446f327ebd9fe2cfdcc5779ac24e50"), looks := true }, kinds := [], alts := [], laidByText := true, laidKinds := [.data, .data, .data, .data, .sentinel, .sentinel, .pinned], laidTests := true, laidLooks := .later }
def TopRecoverUptoCardSaid : Prop := Claim7.holds Tryz.pinned (.plain (OpenSpec.upto topRecoverSpec)) topRecoverUptoCard
end Rows
end Go.Proofs.YtbibeionenjmfaaGreatDoor
