/-
  DERIVED. GIVEN WITH THE SEED: THE CARDS: each row of YtkodbldfoldbjaaDoorRows.lean that lists a variable, with what it lists TIED to the program's text (the seventh form; the later family's looks); each row that meets fmt, with fmt's text TOLD by the authors' own Lean function (tested against real Go, not proved from fmt's source: count such statements apart). THE CARD IS WHAT COUNTS. Prove the row's statement (the work); the ties are given (YtkodbldfoldbjaaDoorTie.lean); close each card by the builder's one call (the guide's Derived/Test/ToyasCard.lean, 'card_holds'). Laid BY PROGRAM, IN A SANDBOX (cutbox-door.mjs). By AI agents, Wed Nov 11 2026. No macro, syntax, notation, axiom, sorry.
-/
import Derived.Test.YtkodbldfoldbjaaDoorRows
import GoSem.ClaimSeven
namespace Go.Proofs.YtkodbldfoldbjaaDoor
namespace Rows

/-- THE TIED CARD OF 'threshfloorlaw.ExprSays'. -/
def exprSaysCard : Claim7 := { stood := { row := exprSaysRow, standIns := [], harness := (true, "8d48714c5bc6bf727c1051a689c9770e7066f98189cc534f86b9ca99be19b206"), looks := true }, kinds := [], alts := [], laidByText := true, laidKinds := [.data, .pinned], laidTests := true, laidLooks := .later }
def ExprSaysCardSaid : Prop := Claim7.holds Tryd.pinned (.plain (OpenSpec.ofChange exprSaysSpec)) exprSaysCard

/-- THE TIED CARD OF 'threshfloorlaw.PairSays'. -/
def pairSaysCard : Claim7 := { stood := { row := pairSaysRow, standIns := [], harness := (true, "8d48714c5bc6bf727c1051a689c9770e7066f98189cc534f86b9ca99be19b206"), looks := true }, kinds := [], alts := [], laidByText := true, laidKinds := [.data, .data, .data, .sentinel, .sentinel], laidTests := true, laidLooks := .later }
def PairSaysCardSaid : Prop := Claim7.holds Tryd.pinned (.plain (OpenSpec.ofChange pairSaysSpec)) pairSaysCard

/-- THE TIED CARD OF 'threshfloorlaw.FolderSays'. -/
def folderSaysCard : Claim7 := { stood := { row := folderSaysRow, standIns := [], harness := (true, "8d48714c5bc6bf727c1051a689c9770e7066f98189cc534f86b9ca99be19b206"), looks := true }, kinds := [], alts := [], laidByText := true, laidKinds := [.data, .data, .data, .sentinel, .sentinel], laidTests := true, laidLooks := .later }
def FolderSaysCardSaid : Prop := Claim7.holds Tryd.pinned (.plain (OpenSpec.ofChange folderSaysSpec)) folderSaysCard

/-- THE TIED CARD OF 'threshfloorlaw.JournalSays'. -/
def journalSaysCard : Claim7 := { stood := { row := journalSaysRow, standIns := [], harness := (true, "8d48714c5bc6bf727c1051a689c9770e7066f98189cc534f86b9ca99be19b206"), looks := true }, kinds := [], alts := [], laidByText := true, laidKinds := [.data, .data, .data, .data, .sentinel, .sentinel, .pinned], laidTests := true, laidLooks := .later }
def JournalSaysCardSaid : Prop := Claim7.holds Tryd.pinned (.plain (OpenSpec.ofChange journalSaysSpec)) journalSaysCard

/-- THE TIED CARD OF 'threshfloortop.TopWords'. -/
def topWordsCard : Claim7 := { stood := { row := topWordsRow, standIns := [], harness := (true, "8d48714c5bc6bf727c1051a689c9770e7066f98189cc534f86b9ca99be19b206"), looks := true }, kinds := [], alts := [], laidByText := true, laidKinds := [.data, .pinned], laidTests := true, laidLooks := .later }
def TopWordsCardSaid : Prop := Claim7.holds Tryd.pinned (.plain (OpenSpec.ofChange topWordsSpec)) topWordsCard

/-- THE TIED CARD OF 'threshfloortop.TopExpr'. -/
def topExprCard : Claim7 := { stood := { row := topExprRow, standIns := [], harness := (true, "8d48714c5bc6bf727c1051a689c9770e7066f98189cc534f86b9ca99be19b206"), looks := true }, kinds := [], alts := [], laidByText := true, laidKinds := [.data, .pinned], laidTests := true, laidLooks := .later }
def TopExprCardSaid : Prop := Claim7.holds Tryd.pinned (.plain (OpenSpec.ofChange topExprSpec)) topExprCard

/-- THE TIED CARD OF 'threshfloortop.TopRise'. -/
def topRiseCard : Claim7 := { stood := { row := topRiseRow, standIns := [], harness := (true, "8d48714c5bc6bf727c1051a689c9770e7066f98189cc534f86b9ca99be19b206"), looks := true }, kinds := [], alts := [], laidByText := true, laidKinds := [.data, .data, .data, .sentinel, .sentinel], laidTests := true, laidLooks := .later }
def TopRiseCardSaid : Prop := Claim7.holds Tryd.pinned (.plain (OpenSpec.ofChange topRiseSpec)) topRiseCard

/-- THE TIED CARD OF 'threshfloortop.TopPairs'. -/
def topPairsCard : Claim7 := { stood := { row := topPairsRow, standIns := [], harness := (true, "8d48714c5bc6bf727c1051a689c9770e7066f98189cc534f86b9ca99be19b206"), looks := true }, kinds := [], alts := [], laidByText := true, laidKinds := [.data, .data, .data, .sentinel, .sentinel], laidTests := true, laidLooks := .later }
def TopPairsCardSaid : Prop := Claim7.holds Tryd.pinned (.plain (OpenSpec.ofChange topPairsSpec)) topPairsCard

/-- THE TIED CARD OF 'threshfloortop.TopJournal'. -/
def topJournalCard : Claim7 := { stood := { row := topJournalRow, standIns := [], harness := (true, "8d48714c5bc6bf727c1051a689c9770e7066f98189cc534f86b9ca99be19b206"), looks := true }, kinds := [], alts := [], laidByText := true, laidKinds := [.data, .data, .data, .data, .sentinel, .sentinel, .pinned], laidTests := true, laidLooks := .later }
def TopJournalCardSaid : Prop := Claim7.holds Tryd.pinned (.plain (OpenSpec.ofChange topJournalSpec)) topJournalCard

/-- THE SECOND FORM's CARD OF 'threshfloorlaw.ExprSays'. -/
def exprSaysUptoCard : Claim7 := { stood := { row := exprSaysUptoRow, standIns := [], harness := (true, "8d48714c5bc6bf727c1051a689c9770e7066f98189cc534f86b9ca99be19b206"), looks := true }, kinds := [], alts := [], laidByText := true, laidKinds := [.data, .pinned], laidTests := true, laidLooks := .later }
def ExprSaysUptoCardSaid : Prop := Claim7.holds Tryd.pinned (.plain (OpenSpec.upto exprSaysSpec)) exprSaysUptoCard

/-- THE SECOND FORM's CARD OF 'threshfloorlaw.PairSays'. -/
def pairSaysUptoCard : Claim7 := { stood := { row := pairSaysUptoRow, standIns := [], harness := (true, "8d48714c5bc6bf727c1051a689c9770e7066f98189cc534f86b9ca99be19b206"), looks := true }, kinds := [], alts := [], laidByText := true, laidKinds := [.data, .data, .data, .sentinel, .sentinel], laidTests := true, laidLooks := .later }
def PairSaysUptoCardSaid : Prop := Claim7.holds Tryd.pinned (.plain (OpenSpec.upto pairSaysSpec)) pairSaysUptoCard

/-- THE SECOND FORM's CARD OF 'threshfloorlaw.FolderSays'. -/
def folderSaysUptoCard : Claim7 := { stood := { row := folderSaysUptoRow, standIns := [], harness := (true, "8d48714c5bc6bf727c1051a689c9770e7066f98189cc534f86b9ca99be19b206"), looks := true }, kinds := [], alts := [], laidByText := true, laidKinds := [.data, .data, .data, .sentinel, .sentinel], laidTests := true, laidLooks := .later }
def FolderSaysUptoCardSaid : Prop := Claim7.holds Tryd.pinned (.plain (OpenSpec.upto folderSaysSpec)) folderSaysUptoCard

/-- THE SECOND FORM's CARD OF 'threshfloorlaw.JournalSays'. -/
def journalSaysUptoCard : Claim7 := { stood := { row := journalSaysUptoRow, standIns := [], harness := (true, "8d48714c5bc6bf727c1051a689c9770e7066f98189cc534f86b9ca99be19b206"), looks := true }, kinds := [], alts := [], laidByText := true, laidKinds := [.data, .data, .data, .data, .sentinel, .sentinel, .pinned], laidTests := true, laidLooks := .later }
def JournalSaysUptoCardSaid : Prop := Claim7.holds Tryd.pinned (.plain (OpenSpec.upto journalSaysSpec)) journalSaysUptoCard

/-- THE SECOND FORM's CARD OF 'threshfloortop.TopWords'. -/
def topWordsUptoCard : Claim7 := { stood := { row := topWordsUptoRow, standIns := [], harness := (true, "8d48714c5bc6bf727c1051a689c9770e7066f98189cc534f86b9ca99be19b206"), looks := true }, kinds := [], alts := [], laidByText := true, laidKinds := [.data, .pinned], laidTests := true, laidLooks := .later }
def TopWordsUptoCardSaid : Prop := Claim7.holds Tryd.pinned (.plain (OpenSpec.upto topWordsSpec)) topWordsUptoCard

/-- THE SECOND FORM's CARD OF 'threshfloortop.TopExpr'. -/
def topExprUptoCard : Claim7 := { stood := { row := topExprUptoRow, standIns := [], harness := (true, "8d48714c5bc6bf727c1051a689c9770e7066f98189cc534f86b9ca99be19b206"), looks := true }, kinds := [], alts := [], laidByText := true, laidKinds := [.data, .pinned], laidTests := true, laidLooks := .later }
def TopExprUptoCardSaid : Prop := Claim7.holds Tryd.pinned (.plain (OpenSpec.upto topExprSpec)) topExprUptoCard

/-- THE SECOND FORM's CARD OF 'threshfloortop.TopRise'. -/
def topRiseUptoCard : Claim7 := { stood := { row := topRiseUptoRow, standIns := [], harness := (true, "8d48714c5bc6bf727c1051a689c9770e7066f98189cc534f86b9ca99be19b206"), looks := true }, kinds := [], alts := [], laidByText := true, laidKinds := [.data, .data, .data, .sentinel, .sentinel], laidTests := true, laidLooks := .later }
def TopRiseUptoCardSaid : Prop := Claim7.holds Tryd.pinned (.plain (OpenSpec.upto topRiseSpec)) topRiseUptoCard

/-- THE SECOND FORM's CARD OF 'threshfloortop.TopPairs'. -/
def topPairsUptoCard : Claim7 := { stood := { row := topPairsUptoRow, standIns := [], harness := (true, "8d48714c5bc6bf727c1051a689c9770e7066f98189cc534f86b9ca99be19b206"), looks := true }, kinds := [], alts := [], laidByText := true, laidKinds := [.data, .data, .data, .sentinel, .sentinel], laidTests := true, laidLooks := .later }
def TopPairsUptoCardSaid : Prop := Claim7.holds Tryd.pinned (.plain (OpenSpec.upto topPairsSpec)) topPairsUptoCard

/-- THE SECOND FORM's CARD OF 'threshfloortop.TopJournal'. -/
def topJournalUptoCard : Claim7 := { stood := { row := topJournalUptoRow, standIns := [], harness := (true, "8d48714c5bc6bf727c1051a689c9770e7066f98189cc534f86b9ca99be19b206"), looks := true }, kinds := [], alts := [], laidByText := true, laidKinds := [.data, .data, .data, .data, .sentinel, .sentinel, .pinned], laidTests := true, laidLooks := .later }
def TopJournalUptoCardSaid : Prop := Claim7.holds Tryd.pinned (.plain (OpenSpec.upto topJournalSpec)) topJournalUptoCard
end Rows
end Go.Proofs.YtkodbldfoldbjaaDoor
