/-
  DERIVED. GIVEN WITH THE SEED: THE CARDS: each row of YtfemfgkcgboopaaGreatDoorRows.lean that lists a variable, with what it lists TIED to the program's text (the seventh form; the later family's looks); each row that meets fmt, with fmt's text TOLD by the authors' own Lean function (tested against real Go, not proved from fmt's source: count such statements apart). THE CARD IS WHAT COUNTS. Prove the row's statement (the work); the ties are given (YtfemfgkcgboopaaGreatDoorTie.lean); close each card by the builder's one call (the guide's Derived/Test/ToyasCard.lean, 'card_holds'). Laid BY PROGRAM, IN A SANDBOX (cutbox-door.mjs). By AI agents, Wed Nov 11 2026. No macro, syntax, notation, axiom, sorry.
-/
import Derived.Test.YtfemfgkcgboopaaGreatDoorRows
import GoSem.ClaimSeven
namespace Go.Proofs.YtfemfgkcgboopaaGreatDoor
namespace Rows

/-- THE TIED CARD OF 'narthexlaw27.AttvalMakes'. -/
def attvalMakesCard : Claim7 := { stood := { row := attvalMakesRow, standIns := [], harness := (true, "504ea5e9158ddcdb22e1e92b27bf57bf3374833982495448734236283813948b"), looks := false }, kinds := [], alts := [], laidByText := true, laidKinds := [.data, .data, .widerDeep, .widerDeep, .widerDeep, .data, .pinned], laidTests := true, laidLooks := .later }
def AttvalMakesCardSaid : Prop := Claim7.holds Tryz.pinned (.plain (OpenSpec.ofChange attvalMakesSpec)) attvalMakesCard

/-- THE TIED CARD OF 'narthexlaw27.AttvalParts'. -/
def attvalPartsCard : Claim7 := { stood := { row := attvalPartsRow, standIns := [], harness := (true, "504ea5e9158ddcdb22e1e92b27bf57bf3374833982495448734236283813948b"), looks := false }, kinds := [], alts := [], laidByText := true, laidKinds := [.data, .data, .widerDeep, .widerDeep, .widerDeep, .data, .pinned], laidTests := true, laidLooks := .later }
def AttvalPartsCardSaid : Prop := Claim7.holds Tryz.pinned (.plain (OpenSpec.ofChange attvalPartsSpec)) attvalPartsCard

/-- THE TIED CARD OF 'narthexlaw27.AttvalWrites'. -/
def attvalWritesCard : Claim7 := { stood := { row := attvalWritesRow, standIns := [], harness := (true, "504ea5e9158ddcdb22e1e92b27bf57bf3374833982495448734236283813948b"), looks := false }, kinds := [], alts := [], laidByText := true, laidKinds := [.data, .data, .data, .data, .data, .widerDeep, .widerDeep, .widerDeep, .data, .pinned], laidTests := true, laidLooks := .later }
def AttvalWritesCardSaid : Prop := Claim7.holds Tryz.pinned (.plain (OpenSpec.ofChange attvalWritesSpec)) attvalWritesCard

/-- THE SECOND FORM's CARD OF 'narthexlaw27.AttvalMakes'. -/
def attvalMakesUptoCard : Claim7 := { stood := { row := attvalMakesUptoRow, standIns := [], harness := (true, "504ea5e9158ddcdb22e1e92b27bf57bf3374833982495448734236283813948b"), looks := false }, kinds := [], alts := [], laidByText := true, laidKinds := [.data, .data, .widerDeep, .widerDeep, .widerDeep, .data, .pinned], laidTests := true, laidLooks := .later }
def AttvalMakesUptoCardSaid : Prop := Claim7.holds Tryz.pinned (.plain (OpenSpec.upto attvalMakesSpec)) attvalMakesUptoCard

/-- THE SECOND FORM's CARD OF 'narthexlaw27.AttvalParts'. -/
def attvalPartsUptoCard : Claim7 := { stood := { row := attvalPartsUptoRow, standIns := [], harness := (true, "504ea5e9158ddcdb22e1e92b27bf57bf3374833982495448734236283813948b"), looks := false }, kinds := [], alts := [], laidByText := true, laidKinds := [.data, .data, .widerDeep, .widerDeep, .widerDeep, .data, .pinned], laidTests := true, laidLooks := .later }
def AttvalPartsUptoCardSaid : Prop := Claim7.holds Tryz.pinned (.plain (OpenSpec.upto attvalPartsSpec)) attvalPartsUptoCard

/-- THE SECOND FORM's CARD OF 'narthexlaw27.AttvalWrites'. -/
def attvalWritesUptoCard : Claim7 := { stood := { row := attvalWritesUptoRow, standIns := [], harness := (true, "504ea5e9158ddcdb22e1e92b27bf57bf3374833982495448734236283813948b"), looks := false }, kinds := [], alts := [], laidByText := true, laidKinds := [.data, .data, .data, .data, .data, .widerDeep, .widerDeep, .widerDeep, .data, .pinned], laidTests := true, laidLooks := .later }
def AttvalWritesUptoCardSaid : Prop := Claim7.holds Tryz.pinned (.plain (OpenSpec.upto attvalWritesSpec)) attvalWritesUptoCard
end Rows
end Go.Proofs.YtfemfgkcgboopaaGreatDoor
