/-
  DERIVED. GIVEN WITH THE SEED: THE CARDS: each row of YtljplmidnlahpaaDoorRows.lean that lists a variable, with what it lists TIED to the program's text (the seventh form; the later family's looks); each row that meets fmt, with fmt's text TOLD by the authors' own Lean function (tested against real Go, not proved from fmt's source: count such statements apart). THE CARD IS WHAT COUNTS. Prove the row's statement (the work); the ties are given (YtljplmidnlahpaaDoorTie.lean); close each card by the builder's one call (the guide's Derived/Test/ToyasCard.lean, 'card_holds'). Laid BY PROGRAM, IN A SANDBOX (cutbox-door.mjs). By AI agents, Wed Nov 11 2026. No macro, syntax, notation, axiom, sorry.
-/
import Derived.Test.YtljplmidnlahpaaDoorRows
import GoSem.ClaimSeven
namespace Go.Proofs.YtljplmidnlahpaaDoor
namespace Rows

/-- THE TIED CARD OF 'narthexlaw07.LitRefs'. -/
def litRefsCard : Claim7 := { stood := { row := litRefsRow, standIns := [], harness := (true, "2785e4d996c3e818b031fe62e00e504379545fd84ba8e26d65f1c76e203e70f7"), looks := false }, kinds := [], alts := [], laidByText := true, laidKinds := [.data, .widerDeep, .widerDeep, .widerDeep], laidTests := true, laidLooks := .later }
def LitRefsCardSaid : Prop := Claim7.holds Tryd.pinned (.plain (OpenSpec.ofChange litRefsSpec)) litRefsCard

/-- THE TIED CARD OF 'narthexlaw07.LitReads'. -/
def litReadsCard : Claim7 := { stood := { row := litReadsRow, standIns := [], harness := (true, "2785e4d996c3e818b031fe62e00e504379545fd84ba8e26d65f1c76e203e70f7"), looks := false }, kinds := [], alts := [], laidByText := true, laidKinds := [.data, .widerDeep, .widerDeep, .widerDeep], laidTests := true, laidLooks := .later }
def LitReadsCardSaid : Prop := Claim7.holds Tryd.pinned (.plain (OpenSpec.ofChange litReadsSpec)) litReadsCard

/-- THE TIED CARD OF 'narthexlaw07.LitWrites'. -/
def litWritesCard : Claim7 := { stood := { row := litWritesRow, standIns := [], harness := (true, "2785e4d996c3e818b031fe62e00e504379545fd84ba8e26d65f1c76e203e70f7"), looks := false }, kinds := [], alts := [], laidByText := true, laidKinds := [.data, .data, .data, .data, .widerDeep, .widerDeep, .widerDeep], laidTests := true, laidLooks := .later }
def LitWritesCardSaid : Prop := Claim7.holds Tryd.pinned (.plain (OpenSpec.ofChange litWritesSpec)) litWritesCard

/-- THE TIED CARD OF 'narthexlaw06.CrefChars'. -/
def crefCharsCard : Claim7 := { stood := { row := crefCharsRow, standIns := [], harness := (true, "2785e4d996c3e818b031fe62e00e504379545fd84ba8e26d65f1c76e203e70f7"), looks := false }, kinds := [], alts := [], laidByText := true, laidKinds := [.data, .data, .data, .data, .widerDeep, .widerDeep, .widerDeep], laidTests := true, laidLooks := .later }
def CrefCharsCardSaid : Prop := Claim7.holds Tryd.pinned (.plain (OpenSpec.ofChange crefCharsSpec)) crefCharsCard

/-- THE TIED CARD OF 'narthexlaw06.CrefTexts'. -/
def crefTextsCard : Claim7 := { stood := { row := crefTextsRow, standIns := [], harness := (true, "2785e4d996c3e818b031fe62e00e504379545fd84ba8e26d65f1c76e203e70f7"), looks := false }, kinds := [], alts := [], laidByText := true, laidKinds := [.data, .data, .data, .data, .widerDeep, .widerDeep, .widerDeep], laidTests := true, laidLooks := .later }
def CrefTextsCardSaid : Prop := Claim7.holds Tryd.pinned (.plain (OpenSpec.ofChange crefTextsSpec)) crefTextsCard

/-- THE TIED CARD OF 'narthexlaw06.CrefNames'. -/
def crefNamesCard : Claim7 := { stood := { row := crefNamesRow, standIns := [], harness := (true, "2785e4d996c3e818b031fe62e00e504379545fd84ba8e26d65f1c76e203e70f7"), looks := false }, kinds := [], alts := [], laidByText := true, laidKinds := [.data, .data, .data, .data, .widerDeep, .widerDeep, .widerDeep, .data], laidTests := true, laidLooks := .later }
def CrefNamesCardSaid : Prop := Claim7.holds Tryd.pinned (.plain (OpenSpec.ofChange crefNamesSpec)) crefNamesCard

/-- THE SECOND FORM's CARD OF 'narthexlaw07.LitRefs'. -/
def litRefsUptoCard : Claim7 := { stood := { row := litRefsUptoRow, standIns := [], harness := (true, "2785e4d996c3e818b031fe62e00e504379545fd84ba8e26d65f1c76e203e70f7"), looks := false }, kinds := [], alts := [], laidByText := true, laidKinds := [.data, .widerDeep, .widerDeep, .widerDeep], laidTests := true, laidLooks := .later }
def LitRefsUptoCardSaid : Prop := Claim7.holds Tryd.pinned (.plain (OpenSpec.upto litRefsSpec)) litRefsUptoCard

/-- THE SECOND FORM's CARD OF 'narthexlaw07.LitReads'. -/
def litReadsUptoCard : Claim7 := { stood := { row := litReadsUptoRow, standIns := [], harness := (true, "2785e4d996c3e818b031fe62e00e504379545fd84ba8e26d65f1c76e203e70f7"), looks := false }, kinds := [], alts := [], laidByText := true, laidKinds := [.data, .widerDeep, .widerDeep, .widerDeep], laidTests := true, laidLooks := .later }
def LitReadsUptoCardSaid : Prop := Claim7.holds Tryd.pinned (.plain (OpenSpec.upto litReadsSpec)) litReadsUptoCard

/-- THE SECOND FORM's CARD OF 'narthexlaw07.LitWrites'. -/
def litWritesUptoCard : Claim7 := { stood := { row := litWritesUptoRow, standIns := [], harness := (true, "2785e4d996c3e818b031fe62e00e504379545fd84ba8e26d65f1c76e203e70f7"), looks := false }, kinds := [], alts := [], laidByText := true, laidKinds := [.data, .data, .data, .data, .widerDeep, .widerDeep, .widerDeep], laidTests := true, laidLooks := .later }
def LitWritesUptoCardSaid : Prop := Claim7.holds Tryd.pinned (.plain (OpenSpec.upto litWritesSpec)) litWritesUptoCard

/-- THE SECOND FORM's CARD OF 'narthexlaw06.CrefChars'. -/
def crefCharsUptoCard : Claim7 := { stood := { row := crefCharsUptoRow, standIns := [], harness := (true, "2785e4d996c3e818b031fe62e00e504379545fd84ba8e26d65f1c76e203e70f7"), looks := false }, kinds := [], alts := [], laidByText := true, laidKinds := [.data, .data, .data, .data, .widerDeep, .widerDeep, .widerDeep], laidTests := true, laidLooks := .later }
def CrefCharsUptoCardSaid : Prop := Claim7.holds Tryd.pinned (.plain (OpenSpec.upto crefCharsSpec)) crefCharsUptoCard

/-- THE SECOND FORM's CARD OF 'narthexlaw06.CrefTexts'. -/
def crefTextsUptoCard : Claim7 := { stood := { row := crefTextsUptoRow, standIns := [], harness := (true, "2785e4d996c3e818b031fe62e00e504379545fd84ba8e26d65f1c76e203e70f7"), looks := false }, kinds := [], alts := [], laidByText := true, laidKinds := [.data, .data, .data, .data, .widerDeep, .widerDeep, .widerDeep], laidTests := true, laidLooks := .later }
def CrefTextsUptoCardSaid : Prop := Claim7.holds Tryd.pinned (.plain (OpenSpec.upto crefTextsSpec)) crefTextsUptoCard

/-- THE SECOND FORM's CARD OF 'narthexlaw06.CrefNames'. -/
def crefNamesUptoCard : Claim7 := { stood := { row := crefNamesUptoRow, standIns := [], harness := (true, "2785e4d996c3e818b031fe62e00e504379545fd84ba8e26d65f1c76e203e70f7"), looks := false }, kinds := [], alts := [], laidByText := true, laidKinds := [.data, .data, .data, .data, .widerDeep, .widerDeep, .widerDeep, .data], laidTests := true, laidLooks := .later }
def CrefNamesUptoCardSaid : Prop := Claim7.holds Tryd.pinned (.plain (OpenSpec.upto crefNamesSpec)) crefNamesUptoCard
end Rows
end Go.Proofs.YtljplmidnlahpaaDoor
