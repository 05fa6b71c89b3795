/-
  DERIVED. GIVEN WITH THE SEED: THE CARDS: each row of YthihkbcdihochaaGreatDoorRows.lean that lists a variable, with what it lists TIED to the program's text (the seventh form; the later family's looks); each row that meets fmt, with fmt's text TOLD by the authors' own Lean function (tested against real Go, not proved from fmt's source: count such statements apart). THE CARD IS WHAT COUNTS. Prove the row's statement (the work); the ties are given (YthihkbcdihochaaGreatDoorTie.lean); close each card by the builder's one call (the guide's Derived/Test/ToyasCard.lean, 'card_holds'). Laid BY PROGRAM, IN A SANDBOX (cutbox-door.mjs). By AI agents, Wed Nov 11 2026. No macro, syntax, notation, axiom, sorry.
-/
import Derived.Test.YthihkbcdihochaaGreatDoorRows
import GoSem.ClaimSeven
namespace Go.Proofs.YthihkbcdihochaaGreatDoor
namespace Rows

/-- THE TIED CARD OF 'narthexlaw27.AttvalMakes'. -/
def attvalMakesCard : Claim7 := { stood := { row := attvalMakesRow, standIns := [], harness := (true, "d61c6cf56451503838a0d3b64858fecab2cc81d65da47881564ad0ee09fe3956"), looks := true }, kinds := [], alts := [], laidByText := true, laidKinds := [.data, .data, .widerDeep, .widerDeep, .widerDeep, .data, .pinned], laidTests := true, laidLooks := .later }
def AttvalMakesCardSaid : Prop := Claim7.holds Tryz.pinned (.plain (OpenSpec.ofChange attvalMakesSpec)) attvalMakesCard

/-- THE TIED CARD OF 'narthexlaw27.AttvalParts'. -/
def attvalPartsCard : Claim7 := { stood := { row := attvalPartsRow, standIns := [], harness := (true, "d61c6cf56451503838a0d3b64858fecab2cc81d65da47881564ad0ee09fe3956"), looks := true }, kinds := [], alts := [], laidByText := true, laidKinds := [.data, .data, .widerDeep, .widerDeep, .widerDeep, .data, .pinned], laidTests := true, laidLooks := .later }
def AttvalPartsCardSaid : Prop := Claim7.holds Tryz.pinned (.plain (OpenSpec.ofChange attvalPartsSpec)) attvalPartsCard

/-- THE TIED CARD OF 'narthexlaw41.CanonOnes'. -/
def canonOnesCard : Claim7 := { stood := { row := canonOnesRow, standIns := [], harness := (true, "d61c6cf56451503838a0d3b64858fecab2cc81d65da47881564ad0ee09fe3956"), looks := true }, kinds := [], alts := [], laidByText := true, laidKinds := [.data, .data, .data, .data, .data, .data, .data, .widerDeep, .widerDeep, .widerDeep, .pinned, .pinned], laidTests := true, laidLooks := .later }
def CanonOnesCardSaid : Prop := Claim7.holds Tryz.pinned (.plain (OpenSpec.ofChange canonOnesSpec)) canonOnesCard

/-- THE TIED CARD OF 'narthexlaw27.AttvalWrites'. -/
def attvalWritesCard : Claim7 := { stood := { row := attvalWritesRow, standIns := [], harness := (true, "d61c6cf56451503838a0d3b64858fecab2cc81d65da47881564ad0ee09fe3956"), looks := true }, kinds := [], alts := [], laidByText := true, laidKinds := [.data, .data, .data, .data, .data, .widerDeep, .widerDeep, .widerDeep, .data, .pinned], laidTests := true, laidLooks := .later }
def AttvalWritesCardSaid : Prop := Claim7.holds Tryz.pinned (.plain (OpenSpec.ofChange attvalWritesSpec)) attvalWritesCard

/-- THE TIED CARD OF 'narthexlaw43.CasesParses'. -/
def casesParsesCard : Claim7 := { stood := { row := casesParsesRow, standIns := [], harness := (true, "d61c6cf56451503838a0d3b64858fecab2cc81d65da47881564ad0ee09fe3956"), looks := true }, kinds := [], alts := [], laidByText := true, laidKinds := [.data, .data, .data, .data, .sentinel, .sentinel, .sentinel, .pinned], laidTests := true, laidLooks := .later }
def CasesParsesCardSaid : Prop := Claim7.holds Tryz.pinned (.plain (OpenSpec.ofChange casesParsesSpec)) casesParsesCard

/-- THE TIED CARD OF 'narthexlaw43.CasesPrints'. -/
def casesPrintsCard : Claim7 := { stood := { row := casesPrintsRow, standIns := [], harness := (true, "d61c6cf56451503838a0d3b64858fecab2cc81d65da47881564ad0ee09fe3956"), looks := true }, kinds := [], alts := [], laidByText := true, laidKinds := [.data, .data, .data, .data, .sentinel, .sentinel, .sentinel, .pinned], laidTests := true, laidLooks := .later }
def CasesPrintsCardSaid : Prop := Claim7.holds Tryz.pinned (.plain (OpenSpec.ofChange casesPrintsSpec)) casesPrintsCard

/-- THE SECOND FORM's CARD OF 'narthexlaw27.AttvalMakes'. -/
def attvalMakesUptoCard : Claim7 := { stood := { row := attvalMakesUptoRow, standIns := [], harness := (true, "d61c6cf56451503838a0d3b64858fecab2cc81d65da47881564ad0ee09fe3956"), looks := true }, kinds := [], alts := [], laidByText := true, laidKinds := [.data, .data, .widerDeep, .widerDeep, .widerDeep, .data, .pinned], laidTests := true, laidLooks := .later }
def AttvalMakesUptoCardSaid : Prop := Claim7.holds Tryz.pinned (.plain (OpenSpec.upto attvalMakesSpec)) attvalMakesUptoCard

/-- THE SECOND FORM's CARD OF 'narthexlaw27.AttvalParts'. -/
def attvalPartsUptoCard : Claim7 := { stood := { row := attvalPartsUptoRow, standIns := [], harness := (true, "d61c6cf56451503838a0d3b64858fecab2cc81d65da47881564ad0ee09fe3956"), looks := true }, kinds := [], alts := [], laidByText := true, laidKinds := [.data, .data, .widerDeep, .widerDeep, .widerDeep, .data, .pinned], laidTests := true, laidLooks := .later }
def AttvalPartsUptoCardSaid : Prop := Claim7.holds Tryz.pinned (.plain (OpenSpec.upto attvalPartsSpec)) attvalPartsUptoCard

/-- THE SECOND FORM's CARD OF 'narthexlaw41.CanonOnes'. -/
def canonOnesUptoCard : Claim7 := { stood := { row := canonOnesUptoRow, standIns := [], harness := (true, "d61c6cf56451503838a0d3b64858fecab2cc81d65da47881564ad0ee09fe3956"), looks := true }, kinds := [], alts := [], laidByText := true, laidKinds := [.data, .data, .data, .data, .data, .data, .data, .widerDeep, .widerDeep, .widerDeep, .pinned, .pinned], laidTests := true, laidLooks := .later }
def CanonOnesUptoCardSaid : Prop := Claim7.holds Tryz.pinned (.plain (OpenSpec.upto canonOnesSpec)) canonOnesUptoCard

/-- THE SECOND FORM's CARD OF 'narthexlaw27.AttvalWrites'. -/
def attvalWritesUptoCard : Claim7 := { stood := { row := attvalWritesUptoRow, standIns := [], harness := (true, "d61c6cf56451503838a0d3b64858fecab2cc81d65da47881564ad0ee09fe3956"), looks := true }, kinds := [], alts := [], laidByText := true, laidKinds := [.data, .data, .data, .data, .data, .widerDeep, .widerDeep, .widerDeep, .data, .pinned], laidTests := true, laidLooks := .later }
def AttvalWritesUptoCardSaid : Prop := Claim7.holds Tryz.pinned (.plain (OpenSpec.upto attvalWritesSpec)) attvalWritesUptoCard

/-- THE SECOND FORM's CARD OF 'narthexlaw43.CasesParses'. -/
def casesParsesUptoCard : Claim7 := { stood := { row := casesParsesUptoRow, standIns := [], harness := (true, "d61c6cf56451503838a0d3b64858fecab2cc81d65da47881564ad0ee09fe3956"), looks := true }, kinds := [], alts := [], laidByText := true, laidKinds := [.data, .data, .data, .data, .sentinel, .sentinel, .sentinel, .pinned], laidTests := true, laidLooks := .later }
def CasesParsesUptoCardSaid : Prop := Claim7.holds Tryz.pinned (.plain (OpenSpec.upto casesParsesSpec)) casesParsesUptoCard

/-- THE SECOND FORM's CARD OF 'narthexlaw43.CasesPrints'. -/
def casesPrintsUptoCard : Claim7 := { stood := { row := casesPrintsUptoRow, standIns := [], harness := (true, "d61c6cf56451503838a0d3b64858fecab2cc81d65da47881564ad0ee09fe3956"), looks := true }, kinds := [], alts := [], laidByText := true, laidKinds := [.data, .data, .data, .data, .sentinel, .sentinel, .sentinel, .pinned], laidTests := true, laidLooks := .later }
def CasesPrintsUptoCardSaid : Prop := Claim7.holds Tryz.pinned (.plain (OpenSpec.upto casesPrintsSpec)) casesPrintsUptoCard
end Rows
end Go.Proofs.YthihkbcdihochaaGreatDoor
