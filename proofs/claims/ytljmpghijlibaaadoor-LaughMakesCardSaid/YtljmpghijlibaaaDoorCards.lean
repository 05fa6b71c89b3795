/-
  DERIVED. GIVEN WITH THE SEED: THE CARDS: each row of YtljmpghijlibaaaDoorRows.lean that lists a variable, with what it lists TIED to the program's text (the seventh form; the later family's looks); each row that meets fmt, with fmt's text TOLD by the authors' own Lean function (tested against real Go, not proved from fmt's source: count such statements apart). THE CARD IS WHAT COUNTS. Prove the row's statement (the work); the ties are given (YtljmpghijlibaaaDoorTie.lean); close each card by the builder's one call (the guide's Derived/Test/ToyasCard.lean, 'card_holds'). Laid BY PROGRAM, IN A SANDBOX (cutbox-door.mjs). By AI agents, Wed Nov 11 2026. No macro, syntax, notation, axiom, sorry.
-/
import Derived.Test.YtljmpghijlibaaaDoorRows
import GoSem.ClaimSeven
namespace Go.Proofs.YtljmpghijlibaaaDoor
namespace Rows

/-- THE TIED CARD OF 'narthexlaw45.LaughMakes'. -/
def laughMakesCard : Claim7 := { stood := { row := laughMakesRow, standIns := [], harness := (true, "8b19470c1a01e4613165f2fc729db9444859ec6d2d5c89fa0431e63e35f5873e"), looks := false }, kinds := [], alts := [], laidByText := true, laidKinds := [.data, .data, .data, .data, .widerDeep], laidTests := true, laidLooks := .later }
def LaughMakesCardSaid : Prop := Claim7.holds Tryd.pinned (.plain (OpenSpec.ofChange laughMakesSpec)) laughMakesCard

/-- THE TIED CARD OF 'narthexlaw25.LoadTexts'. -/
def loadTextsCard : Claim7 := { stood := { row := loadTextsRow, standIns := [], harness := (true, "8b19470c1a01e4613165f2fc729db9444859ec6d2d5c89fa0431e63e35f5873e"), looks := false }, kinds := [], alts := [], laidByText := true, laidKinds := [.data, .data, .data, .data, .widerDeep, .pinned, .pinned], laidTests := true, laidLooks := .later }
def LoadTextsCardSaid : Prop := Claim7.holds Tryd.pinned (.plain (OpenSpec.ofChange loadTextsSpec)) loadTextsCard

/-- THE TIED CARD OF 'narthexlaw25.LoadLong'. -/
def loadLongCard : Claim7 := { stood := { row := loadLongRow, standIns := [], harness := (true, "8b19470c1a01e4613165f2fc729db9444859ec6d2d5c89fa0431e63e35f5873e"), looks := false }, kinds := [], alts := [], laidByText := true, laidKinds := [.data, .data, .data, .data, .widerDeep, .pinned, .pinned], laidTests := true, laidLooks := .later }
def LoadLongCardSaid : Prop := Claim7.holds Tryd.pinned (.plain (OpenSpec.ofChange loadLongSpec)) loadLongCard

/-- THE TIED CARD OF 'narthexlaw25.LoadDocs'. -/
def loadDocsCard : Claim7 := { stood := { row := loadDocsRow, standIns := [], harness := (true, "8b19470c1a01e4613165f2fc729db9444859ec6d2d5c89fa0431e63e35f5873e"), looks := false }, kinds := [], alts := [], laidByText := true, laidKinds := [.data, .data, .data, .data, .widerDeep, .pinned, .pinned], laidTests := true, laidLooks := .later }
def LoadDocsCardSaid : Prop := Claim7.holds Tryd.pinned (.plain (OpenSpec.ofChange loadDocsSpec)) loadDocsCard

/-- THE SECOND FORM's CARD OF 'narthexlaw45.LaughMakes'. -/
def laughMakesUptoCard : Claim7 := { stood := { row := laughMakesUptoRow, standIns := [], harness := (true, "8b19470c1a01e4613165f2fc729db9444859ec6d2d5c89fa0431e63e35f5873e"), looks := false }, kinds := [], alts := [], laidByText := true, laidKinds := [.data, .data, .data, .data, .widerDeep], laidTests := true, laidLooks := .later }
def LaughMakesUptoCardSaid : Prop := Claim7.holds Tryd.pinned (.plain (OpenSpec.upto laughMakesSpec)) laughMakesUptoCard

/-- THE SECOND FORM's CARD OF 'narthexlaw25.LoadTexts'. -/
def loadTextsUptoCard : Claim7 := { stood := { row := loadTextsUptoRow, standIns := [], harness := (true, "8b19470c1a01e4613165f2fc729db9444859ec6d2d5c89fa0431e63e35f5873e"), looks := false }, kinds := [], alts := [], laidByText := true, laidKinds := [.data, .data, .data, .data, .widerDeep, .pinned, .pinned], laidTests := true, laidLooks := .later }
def LoadTextsUptoCardSaid : Prop := Claim7.holds Tryd.pinned (.plain (OpenSpec.upto loadTextsSpec)) loadTextsUptoCard

/-- THE SECOND FORM's CARD OF 'narthexlaw25.LoadLong'. -/
def loadLongUptoCard : Claim7 := { stood := { row := loadLongUptoRow, standIns := [], harness := (true, "8b19470c1a01e4613165f2fc729db9444859ec6d2d5c89fa0431e63e35f5873e"), looks := false }, kinds := [], alts := [], laidByText := true, laidKinds := [.data, .data, .data, .data, .widerDeep, .pinned, .pinned], laidTests := true, laidLooks := .later }
def LoadLongUptoCardSaid : Prop := Claim7.holds Tryd.pinned (.plain (OpenSpec.upto loadLongSpec)) loadLongUptoCard

/-- THE SECOND FORM's CARD OF 'narthexlaw25.LoadDocs'. -/
def loadDocsUptoCard : Claim7 := { stood := { row := loadDocsUptoRow, standIns := [], harness := (true, "8b19470c1a01e4613165f2fc729db9444859ec6d2d5c89fa0431e63e35f5873e"), looks := false }, kinds := [], alts := [], laidByText := true, laidKinds := [.data, .data, .data, .data, .widerDeep, .pinned, .pinned], laidTests := true, laidLooks := .later }
def LoadDocsUptoCardSaid : Prop := Claim7.holds Tryd.pinned (.plain (OpenSpec.upto loadDocsSpec)) loadDocsUptoCard
end Rows
end Go.Proofs.YtljmpghijlibaaaDoor
