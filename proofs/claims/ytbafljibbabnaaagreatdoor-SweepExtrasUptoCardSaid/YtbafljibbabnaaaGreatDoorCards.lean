/-
  DERIVED. GIVEN WITH THE SEED: THE CARDS: each row of YtbafljibbabnaaaGreatDoorRows.lean that lists a variable, with what it lists TIED to the program's text (the seventh form; the later family's looks); each row that meets fmt, with fmt's text TOLD by the authors' own Lean function (tested against real Go, not proved from fmt's source: count such statements apart). THE CARD IS WHAT COUNTS. Prove the row's statement (the work); the ties are given (YtbafljibbabnaaaGreatDoorTie.lean); close each card by the builder's one call (the guide's Derived/Test/ToyasCard.lean, 'card_holds'). Laid BY PROGRAM, IN A SANDBOX (cutbox-door.mjs). By AI agents, Wed Nov 11 2026. No macro, syntax, notation, axiom, sorry.
-/
import Derived.Test.YtbafljibbabnaaaGreatDoorRows
import GoSem.ClaimSeven
namespace Go.Proofs.YtbafljibbabnaaaGreatDoor
namespace Rows

/-- THE TIED CARD OF 'narthexlaw30.SweepExtras'. -/
def sweepExtrasCard : Claim7 := { stood := { row := sweepExtrasRow, standIns := [], harness := (true, "298d5b07ed06663a0450cfe3c2c69db74f98dc3fcd8468c303f97b6aa259feb0"), looks := false }, kinds := [], alts := [], laidByText := true, laidKinds := [.data, .data, .data, .data, .widerDeep, .widerDeep, .widerDeep, .data, .pinned, .pinned], laidTests := true, laidLooks := .later }
def SweepExtrasCardSaid : Prop := Claim7.holds Tryz.pinned (.plain (OpenSpec.ofChange sweepExtrasSpec)) sweepExtrasCard

/-- THE SECOND FORM's CARD OF 'narthexlaw30.SweepExtras'. -/
def sweepExtrasUptoCard : Claim7 := { stood := { row := sweepExtrasUptoRow, standIns := [], harness := (true, "298d5b07ed06663a0450cfe3c2c69db74f98dc3fcd8468c303f97b6aa259feb0"), looks := false }, kinds := [], alts := [], laidByText := true, laidKinds := [.data, .data, .data, .data, .widerDeep, .widerDeep, .widerDeep, .data, .pinned, .pinned], laidTests := true, laidLooks := .later }
def SweepExtrasUptoCardSaid : Prop := Claim7.holds Tryz.pinned (.plain (OpenSpec.upto sweepExtrasSpec)) sweepExtrasUptoCard
end Rows
end Go.Proofs.YtbafljibbabnaaaGreatDoor
