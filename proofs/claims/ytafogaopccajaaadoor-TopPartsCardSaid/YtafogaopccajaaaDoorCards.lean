/-
  DERIVED. GIVEN WITH THE SEED: THE CARDS: each row of YtafogaopccajaaaDoorRows.lean that lists a variable, with what it lists TIED to the program's text (the seventh form; the later family's looks); each row that meets fmt, with fmt's text TOLD by the authors' own Lean function (tested against real Go, not proved from fmt's source: count such statements apart). THE CARD IS WHAT COUNTS. Prove the row's statement (the work); the ties are given (YtafogaopccajaaaDoorTie.lean); close each card by the builder's one call (the guide's Derived/Test/ToyasCard.lean, 'card_holds'). Laid BY PROGRAM, IN A SANDBOX (cutbox-door.mjs). By AI agents, Wed Nov 11 2026. No macro, syntax, notation, axiom, sorry.
-/
import Derived.Test.YtafogaopccajaaaDoorRows
import GoSem.ClaimSeven
namespace Go.Proofs.YtafogaopccajaaaDoor
namespace Rows

/-- THE TIED CARD OF 'threshfloortop.TopRules'. -/
def topRulesCard : Claim7 := { stood := { row := topRulesRow, standIns := [], harness := (true, "3b57976691cedad15738ee6ae356b74542931abf9aa12968c26de14244994652"), looks := true }, kinds := [], alts := [], laidByText := true, laidKinds := [.data, .pinned], laidTests := true, laidLooks := .later }
def TopRulesCardSaid : Prop := Claim7.holds Tryd.pinned (.plain (OpenSpec.ofChange topRulesSpec)) topRulesCard

/-- THE TIED CARD OF 'threshfloortop.TopWhen'. -/
def topWhenCard : Claim7 := { stood := { row := topWhenRow, standIns := [], harness := (true, "3b57976691cedad15738ee6ae356b74542931abf9aa12968c26de14244994652"), looks := true }, kinds := [], alts := [], laidByText := true, laidKinds := [.data, .pinned], laidTests := true, laidLooks := .later }
def TopWhenCardSaid : Prop := Claim7.holds Tryd.pinned (.plain (OpenSpec.ofChange topWhenSpec)) topWhenCard

/-- THE TIED CARD OF 'threshfloortop.TopSlices'. -/
def topSlicesCard : Claim7 := { stood := { row := topSlicesRow, standIns := [], harness := (true, "3b57976691cedad15738ee6ae356b74542931abf9aa12968c26de14244994652"), looks := true }, kinds := [], alts := [], laidByText := true, laidKinds := [.data, .pinned], laidTests := true, laidLooks := .later }
def TopSlicesCardSaid : Prop := Claim7.holds Tryd.pinned (.plain (OpenSpec.ofChange topSlicesSpec)) topSlicesCard

/-- THE TIED CARD OF 'threshfloortop.TopParts'. -/
def topPartsCard : Claim7 := { stood := { row := topPartsRow, standIns := [], harness := (true, "3b57976691cedad15738ee6ae356b74542931abf9aa12968c26de14244994652"), looks := true }, kinds := [], alts := [], laidByText := true, laidKinds := [.data, .pinned], laidTests := true, laidLooks := .later }
def TopPartsCardSaid : Prop := Claim7.holds Tryd.pinned (.plain (OpenSpec.ofChange topPartsSpec)) topPartsCard

/-- THE TIED CARD OF 'threshfloortop.TopEarly'. -/
def topEarlyCard : Claim7 := { stood := { row := topEarlyRow, standIns := [], harness := (true, "3b57976691cedad15738ee6ae356b74542931abf9aa12968c26de14244994652"), looks := true }, kinds := [], alts := [], laidByText := true, laidKinds := [.data, .data, .data, .data, .pinned], laidTests := true, laidLooks := .later }
def TopEarlyCardSaid : Prop := Claim7.holds Tryd.pinned (.plain (OpenSpec.ofChange topEarlySpec)) topEarlyCard

/-- THE TIED CARD OF 'threshfloortop.TopPlain'. -/
def topPlainCard : Claim7 := { stood := { row := topPlainRow, standIns := [], harness := (true, "3b57976691cedad15738ee6ae356b74542931abf9aa12968c26de14244994652"), looks := true }, kinds := [], alts := [], laidByText := true, laidKinds := [.data, .data, .data, .data, .pinned], laidTests := true, laidLooks := .later }
def TopPlainCardSaid : Prop := Claim7.holds Tryd.pinned (.plain (OpenSpec.ofChange topPlainSpec)) topPlainCard

/-- THE TIED CARD OF 'threshfloortop.TopJob'. -/
def topJobCard : Claim7 := { stood := { row := topJobRow, standIns := [], harness := (true, "3b57976691cedad15738ee6ae356b74542931abf9aa12968c26de14244994652"), looks := true }, kinds := [], alts := [], laidByText := true, laidKinds := [.data, .data, .data, .data, .sentinel, .sentinel, .pinned], laidTests := true, laidLooks := .later }
def TopJobCardSaid : Prop := Claim7.holds Tryd.pinned (.plain (OpenSpec.ofChange topJobSpec)) topJobCard

/-- THE SECOND FORM's CARD OF 'threshfloortop.TopRules'. -/
def topRulesUptoCard : Claim7 := { stood := { row := topRulesUptoRow, standIns := [], harness := (true, "3b57976691cedad15738ee6ae356b74542931abf9aa12968c26de14244994652"), looks := true }, kinds := [], alts := [], laidByText := true, laidKinds := [.data, .pinned], laidTests := true, laidLooks := .later }
def TopRulesUptoCardSaid : Prop := Claim7.holds Tryd.pinned (.plain (OpenSpec.upto topRulesSpec)) topRulesUptoCard

/-- THE SECOND FORM's CARD OF 'threshfloortop.TopWhen'. -/
def topWhenUptoCard : Claim7 := { stood := { row := topWhenUptoRow, standIns := [], harness := (true, "3b57976691cedad15738ee6ae356b74542931abf9aa12968c26de14244994652"), looks := true }, kinds := [], alts := [], laidByText := true, laidKinds := [.data, .pinned], laidTests := true, laidLooks := .later }
def TopWhenUptoCardSaid : Prop := Claim7.holds Tryd.pinned (.plain (OpenSpec.upto topWhenSpec)) topWhenUptoCard

/-- THE SECOND FORM's CARD OF 'threshfloortop.TopSlices'. -/
def topSlicesUptoCard : Claim7 := { stood := { row := topSlicesUptoRow, standIns := [], harness := (true, "3b57976691cedad15738ee6ae356b74542931abf9aa12968c26de14244994652"), looks := true }, kinds := [], alts := [], laidByText := true, laidKinds := [.data, .pinned], laidTests := true, laidLooks := .later }
def TopSlicesUptoCardSaid : Prop := Claim7.holds Tryd.pinned (.plain (OpenSpec.upto topSlicesSpec)) topSlicesUptoCard

/-- THE SECOND FORM's CARD OF 'threshfloortop.TopParts'. -/
def topPartsUptoCard : Claim7 := { stood := { row := topPartsUptoRow, standIns := [], harness := (true, "3b57976691cedad15738ee6ae356b74542931abf9aa12968c26de14244994652"), looks := true }, kinds := [], alts := [], laidByText := true, laidKinds := [.data, .pinned], laidTests := true, laidLooks := .later }
def TopPartsUptoCardSaid : Prop := Claim7.holds Tryd.pinned (.plain (OpenSpec.upto topPartsSpec)) topPartsUptoCard

/-- THE SECOND FORM's CARD OF 'threshfloortop.TopEarly'. -/
def topEarlyUptoCard : Claim7 := { stood := { row := topEarlyUptoRow, standIns := [], harness := (true, "3b57976691cedad15738ee6ae356b74542931abf9aa12968c26de14244994652"), looks := true }, kinds := [], alts := [], laidByText := true, laidKinds := [.data, .data, .data, .data, .pinned], laidTests := true, laidLooks := .later }
def TopEarlyUptoCardSaid : Prop := Claim7.holds Tryd.pinned (.plain (OpenSpec.upto topEarlySpec)) topEarlyUptoCard

/-- THE SECOND FORM's CARD OF 'threshfloortop.TopPlain'. -/
def topPlainUptoCard : Claim7 := { stood := { row := topPlainUptoRow, standIns := [], harness := (true, "3b57976691cedad15738ee6ae356b74542931abf9aa12968c26de14244994652"), looks := true }, kinds := [], alts := [], laidByText := true, laidKinds := [.data, .data, .data, .data, .pinned], laidTests := true, laidLooks := .later }
def TopPlainUptoCardSaid : Prop := Claim7.holds Tryd.pinned (.plain (OpenSpec.upto topPlainSpec)) topPlainUptoCard

/-- THE SECOND FORM's CARD OF 'threshfloortop.TopJob'. -/
def topJobUptoCard : Claim7 := { stood := { row := topJobUptoRow, standIns := [], harness := (true, "3b57976691cedad15738ee6ae356b74542931abf9aa12968c26de14244994652"), looks := true }, kinds := [], alts := [], laidByText := true, laidKinds := [.data, .data, .data, .data, .sentinel, .sentinel, .pinned], laidTests := true, laidLooks := .later }
def TopJobUptoCardSaid : Prop := Claim7.holds Tryd.pinned (.plain (OpenSpec.upto topJobSpec)) topJobUptoCard
end Rows
end Go.Proofs.YtafogaopccajaaaDoor
