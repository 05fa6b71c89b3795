/-
  DERIVED. GIVEN WITH THE SEED: THE CARDS: each row of YtmclngahdklfkaaGreatDoorRows.lean that lists a variable, with what it lists TIED to the program's text (the seventh form; the later family's looks); each row that meets fmt, with fmt's text TOLD by the authors' own Lean function (tested against real Go, not proved from fmt's source: count such statements apart). THE CARD IS WHAT COUNTS. Prove the row's statement (the work); the ties are given (YtmclngahdklfkaaGreatDoorTie.lean); close each card by the builder's one call (the guide's Derived/Test/ToyasCard.lean, 'card_holds'). Laid BY PROGRAM, IN A SANDBOX (cutbox-door.mjs). By AI agents, Wed Nov 11 2026. No macro, syntax, notation, axiom, sorry.
-/
import Derived.Test.YtmclngahdklfkaaGreatDoorRows
import GoSem.ClaimSeven
namespace Go.Proofs.YtmclngahdklfkaaGreatDoor
namespace Rows

/-- THE TIED CARD OF 'narthexlaw11.TokNexts'. -/
def tokNextsCard : Claim7 := { stood := { row := tokNextsRow, standIns := [], harness := (true, "08bf62fec7b18bec77635913e663786e57f3c11399ef1c71002d92dfb71da4d4"), looks := false }, kinds := [], alts := [], laidByText := true, laidKinds := [.data, .data, .data, .data, .widerDeep, .widerDeep, .widerDeep, .pinned, .pinned], laidTests := true, laidLooks := .later }
def TokNextsCardSaid : Prop := Claim7.holds Tryz.pinned (.plain (OpenSpec.ofChange tokNextsSpec)) tokNextsCard

/-- THE TIED CARD OF 'narthexlaw11.TokAlls'. -/
def tokAllsCard : Claim7 := { stood := { row := tokAllsRow, standIns := [], harness := (true, "08bf62fec7b18bec77635913e663786e57f3c11399ef1c71002d92dfb71da4d4"), looks := false }, kinds := [], alts := [], laidByText := true, laidKinds := [.data, .data, .data, .data, .widerDeep, .widerDeep, .widerDeep, .pinned, .pinned], laidTests := true, laidLooks := .later }
def TokAllsCardSaid : Prop := Claim7.holds Tryz.pinned (.plain (OpenSpec.ofChange tokAllsSpec)) tokAllsCard

/-- THE TIED CARD OF 'narthexlaw30.SweepDocuments'. -/
def sweepDocumentsCard : Claim7 := { stood := { row := sweepDocumentsRow, standIns := [], harness := (true, "08bf62fec7b18bec77635913e663786e57f3c11399ef1c71002d92dfb71da4d4"), looks := false }, kinds := [], alts := [], laidByText := true, laidKinds := [.data, .data, .data, .data, .widerDeep, .widerDeep, .widerDeep, .pinned, .pinned], laidTests := true, laidLooks := .later }
def SweepDocumentsCardSaid : Prop := Claim7.holds Tryz.pinned (.plain (OpenSpec.ofChange sweepDocumentsSpec)) sweepDocumentsCard

/-- THE TIED CARD OF 'narthexlaw30.SweepOne'. -/
def sweepOneCard : Claim7 := { stood := { row := sweepOneRow, standIns := [], harness := (true, "08bf62fec7b18bec77635913e663786e57f3c11399ef1c71002d92dfb71da4d4"), looks := false }, kinds := [], alts := [], laidByText := true, laidKinds := [.data, .data, .data, .data, .widerDeep, .widerDeep, .widerDeep, .pinned, .pinned], laidTests := true, laidLooks := .later }
def SweepOneCardSaid : Prop := Claim7.holds Tryz.pinned (.plain (OpenSpec.ofChange sweepOneSpec)) sweepOneCard

/-- THE TIED CARD OF 'narthexlaw30.SweepContents'. -/
def sweepContentsCard : Claim7 := { stood := { row := sweepContentsRow, standIns := [], harness := (true, "08bf62fec7b18bec77635913e663786e57f3c11399ef1c71002d92dfb71da4d4"), looks := false }, kinds := [], alts := [], laidByText := true, laidKinds := [.data, .data, .data, .data, .widerDeep, .widerDeep, .widerDeep, .pinned, .pinned], laidTests := true, laidLooks := .later }
def SweepContentsCardSaid : Prop := Claim7.holds Tryz.pinned (.plain (OpenSpec.ofChange sweepContentsSpec)) sweepContentsCard

/-- THE TIED CARD OF 'narthexlaw11.TokPuts'. -/
def tokPutsCard : Claim7 := { stood := { row := tokPutsRow, standIns := [], harness := (true, "08bf62fec7b18bec77635913e663786e57f3c11399ef1c71002d92dfb71da4d4"), looks := false }, kinds := [], alts := [], laidByText := true, laidKinds := [.data, .data, .data, .data, .data, .data, .data, .widerDeep, .widerDeep, .widerDeep, .pinned, .pinned], laidTests := true, laidLooks := .later }
def TokPutsCardSaid : Prop := Claim7.holds Tryz.pinned (.plain (OpenSpec.ofChange tokPutsSpec)) tokPutsCard

/-- THE SECOND FORM's CARD OF 'narthexlaw11.TokNexts'. -/
def tokNextsUptoCard : Claim7 := { stood := { row := tokNextsUptoRow, standIns := [], harness := (true, "08bf62fec7b18bec77635913e663786e57f3c11399ef1c71002d92dfb71da4d4"), looks := false }, kinds := [], alts := [], laidByText := true, laidKinds := [.data, .data, .data, .data, .widerDeep, .widerDeep, .widerDeep, .pinned, .pinned], laidTests := true, laidLooks := .later }
def TokNextsUptoCardSaid : Prop := Claim7.holds Tryz.pinned (.plain (OpenSpec.upto tokNextsSpec)) tokNextsUptoCard

/-- THE SECOND FORM's CARD OF 'narthexlaw11.TokAlls'. -/
def tokAllsUptoCard : Claim7 := { stood := { row := tokAllsUptoRow, standIns := [], harness := (true, "08bf62fec7b18bec77635913e663786e57f3c11399ef1c71002d92dfb71da4d4"), looks := false }, kinds := [], alts := [], laidByText := true, laidKinds := [.data, .data, .data, .data, .widerDeep, .widerDeep, .widerDeep, .pinned, .pinned], laidTests := true, laidLooks := .later }
def TokAllsUptoCardSaid : Prop := Claim7.holds Tryz.pinned (.plain (OpenSpec.upto tokAllsSpec)) tokAllsUptoCard

/-- THE SECOND FORM's CARD OF 'narthexlaw30.SweepDocuments'. -/
def sweepDocumentsUptoCard : Claim7 := { stood := { row := sweepDocumentsUptoRow, standIns := [], harness := (true, "08bf62fec7b18bec77635913e663786e57f3c11399ef1c71002d92dfb71da4d4"), looks := false }, kinds := [], alts := [], laidByText := true, laidKinds := [.data, .data, .data, .data, .widerDeep, .widerDeep, .widerDeep, .pinned, .pinned], laidTests := true, laidLooks := .later }
def SweepDocumentsUptoCardSaid : Prop := Claim7.holds Tryz.pinned (.plain (OpenSpec.upto sweepDocumentsSpec)) sweepDocumentsUptoCard

/-- THE SECOND FORM's CARD OF 'narthexlaw30.SweepOne'. -/
def sweepOneUptoCard : Claim7 := { stood := { row := sweepOneUptoRow, standIns := [], harness := (true, "08bf62fec7b18bec77635913e663786e57f3c11399ef1c71002d92dfb71da4d4"), looks := false }, kinds := [], alts := [], laidByText := true, laidKinds := [.data, .data, .data, .data, .widerDeep, .widerDeep, .widerDeep, .pinned, .pinned], laidTests := true, laidLooks := .later }
def SweepOneUptoCardSaid : Prop := Claim7.holds Tryz.pinned (.plain (OpenSpec.upto sweepOneSpec)) sweepOneUptoCard

/-- THE SECOND FORM's CARD OF 'narthexlaw30.SweepContents'. -/
def sweepContentsUptoCard : Claim7 := { stood := { row := sweepContentsUptoRow, standIns := [], harness := (true, "08bf62fec7b18bec77635913e663786e57f3c11399ef1c71002d92dfb71da4d4"), looks := false }, kinds := [], alts := [], laidByText := true, laidKinds := [.data, .data, .data, .data, .widerDeep, .widerDeep, .widerDeep, .pinned, .pinned], laidTests := true, laidLooks := .later }
def SweepContentsUptoCardSaid : Prop := Claim7.holds Tryz.pinned (.plain (OpenSpec.upto sweepContentsSpec)) sweepContentsUptoCard

/-- THE SECOND FORM's CARD OF 'narthexlaw11.TokPuts'. -/
def tokPutsUptoCard : Claim7 := { stood := { row := tokPutsUptoRow, standIns := [], harness := (true, "08bf62fec7b18bec77635913e663786e57f3c11399ef1c71002d92dfb71da4d4"), looks := false }, kinds := [], alts := [], laidByText := true, laidKinds := [.data, .data, .data, .data, .data, .data, .data, .widerDeep, .widerDeep, .widerDeep, .pinned, .pinned], laidTests := true, laidLooks := .later }
def TokPutsUptoCardSaid : Prop := Claim7.holds Tryz.pinned (.plain (OpenSpec.upto tokPutsSpec)) tokPutsUptoCard
end Rows
end Go.Proofs.YtmclngahdklfkaaGreatDoor
