/-
  DERIVED. GIVEN WITH THE SEED: THE CARDS: each row of YtbllodeanfdebaaGreatDoorRows.lean that lists a variable, with what it lists TIED to the program's text (the seventh form; the later family's looks); each row that meets fmt, with fmt's text TOLD by the authors' own Lean function (tested against real Go, not proved from fmt's source: count such statements apart). THE CARD IS WHAT COUNTS. Prove the row's statement (the work); the ties are given (YtbllodeanfdebaaGreatDoorTie.lean); close each card by the builder's one call (the guide's Derived/Test/ToyasCard.lean, 'card_holds'). Laid BY PROGRAM, IN A SANDBOX (cutbox-door.mjs). By AI agents, Wed Nov 11 2026. No macro, syntax, notation, axiom, sorry.
-/
import Derived.Test.YtbllodeanfdebaaGreatDoorRows
import GoSem.ClaimSeven
namespace Go.Proofs.YtbllodeanfdebaaGreatDoor
namespace Rows

/-- THE TIED CARD OF 'narthexlaw43.CasesParses'. -/
def casesParsesCard : Claim7 := { stood := { row := casesParsesRow, standIns := [], harness := (true, "d65a735a9f362c6494570abf0e90a32ae7240d84814fbeaf390c61bed8309fe3"), looks := true }, kinds := [], alts := [], laidByText := true, laidKinds := [.data, .data, .data, .data, .sentinel, .sentinel, .sentinel, .pinned], laidTests := true, laidLooks := .later }
def CasesParsesCardSaid : Prop := Claim7.holds Tryz.pinned (.plain (OpenSpec.ofChange casesParsesSpec)) casesParsesCard

/-- THE TIED CARD OF 'narthexlaw43.CasesPrints'. -/
def casesPrintsCard : Claim7 := { stood := { row := casesPrintsRow, standIns := [], harness := (true, "d65a735a9f362c6494570abf0e90a32ae7240d84814fbeaf390c61bed8309fe3"), looks := true }, kinds := [], alts := [], laidByText := true, laidKinds := [.data, .data, .data, .data, .sentinel, .sentinel, .sentinel, .pinned], laidTests := true, laidLooks := .later }
def CasesPrintsCardSaid : Prop := Claim7.holds Tryz.pinned (.plain (OpenSpec.ofChange casesPrintsSpec)) casesPrintsCard

/-- THE SECOND FORM's CARD OF 'narthexlaw43.CasesParses'. -/
def casesParsesUptoCard : Claim7 := { stood := { row := casesParsesUptoRow, standIns := [], harness := (true, "d65a735a9f362c6494570abf0e90a32ae7240d84814fbeaf390c61bed8309fe3"), looks := true }, kinds := [], alts := [], laidByText := true, laidKinds := [.data, .data, .data, .data, .sentinel, .sentinel, .sentinel, .pinned], laidTests := true, laidLooks := .later }
def CasesParsesUptoCardSaid : Prop := Claim7.holds Tryz.pinned (.plain (OpenSpec.upto casesParsesSpec)) casesParsesUptoCard

/-- THE SECOND FORM's CARD OF 'narthexlaw43.CasesPrints'. -/
def casesPrintsUptoCard : Claim7 := { stood := { row := casesPrintsUptoRow, standIns := [], harness := (true, "d65a735a9f362c6494570abf0e90a32ae7240d84814fbeaf390c61bed8309fe3"), looks := true }, kinds := [], alts := [], laidByText := true, laidKinds := [.data, .data, .data, .data, .sentinel, .sentinel, .sentinel, .pinned], laidTests := true, laidLooks := .later }
def CasesPrintsUptoCardSaid : Prop := Claim7.holds Tryz.pinned (.plain (OpenSpec.upto casesPrintsSpec)) casesPrintsUptoCard
end Rows
end Go.Proofs.YtbllodeanfdebaaGreatDoor
