/-
  DERIVED. GIVEN WITH THE SEED: THE CARDS: each row of YtpblphddpcogcaaDoorRows.lean that lists a variable, with what it lists TIED to the program's text (the seventh form; the later family's looks); each row that meets fmt, with fmt's text TOLD by the authors' own Lean function (tested against real Go, not proved from fmt's source: count such statements apart). THE CARD IS WHAT COUNTS. Prove the row's statement (the work); the ties are given (YtpblphddpcogcaaDoorTie.lean); close each card by the builder's one call (the guide's Derived/Test/ToyasCard.lean, 'card_holds'). Laid BY PROGRAM, IN A SANDBOX (cutbox-door.mjs). By AI agents, Wed Nov 11 2026. No macro, syntax, notation, axiom, sorry.
-/
import Derived.Test.YtpblphddpcogcaaDoorRows
import GoSem.ClaimSeven
namespace Go.Proofs.YtpblphddpcogcaaDoor
namespace Rows

/-- THE TIED CARD OF 'narthexlaw10.TagAgain'. -/
def tagAgainCard : Claim7 := { stood := { row := tagAgainRow, standIns := [], harness := (true, "054e2013a485a43f72d05d6687a0db305bbe96845a68981db7bc564b36225e54"), looks := false }, kinds := [], alts := [], laidByText := true, laidKinds := [.data, .widerDeep, .widerDeep, .widerDeep], laidTests := true, laidLooks := .later }
def TagAgainCardSaid : Prop := Claim7.holds Tryd.pinned (.plain (OpenSpec.ofChange tagAgainSpec)) tagAgainCard

/-- THE TIED CARD OF 'narthexlaw10.TagPuts'. -/
def tagPutsCard : Claim7 := { stood := { row := tagPutsRow, standIns := [], harness := (true, "054e2013a485a43f72d05d6687a0db305bbe96845a68981db7bc564b36225e54"), looks := false }, kinds := [], alts := [], laidByText := true, laidKinds := [.data, .widerDeep, .widerDeep, .widerDeep], laidTests := true, laidLooks := .later }
def TagPutsCardSaid : Prop := Claim7.holds Tryd.pinned (.plain (OpenSpec.ofChange tagPutsSpec)) tagPutsCard

/-- THE TIED CARD OF 'narthexlaw14.EvaluePuts'. -/
def evaluePutsCard : Claim7 := { stood := { row := evaluePutsRow, standIns := [], harness := (true, "054e2013a485a43f72d05d6687a0db305bbe96845a68981db7bc564b36225e54"), looks := false }, kinds := [], alts := [], laidByText := true, laidKinds := [.data, .data, .data, .data, .widerDeep, .widerDeep, .widerDeep], laidTests := true, laidLooks := .later }
def EvaluePutsCardSaid : Prop := Claim7.holds Tryd.pinned (.plain (OpenSpec.ofChange evaluePutsSpec)) evaluePutsCard

/-- THE TIED CARD OF 'narthexlaw14.EvalueParts'. -/
def evaluePartsCard : Claim7 := { stood := { row := evaluePartsRow, standIns := [], harness := (true, "054e2013a485a43f72d05d6687a0db305bbe96845a68981db7bc564b36225e54"), looks := false }, kinds := [], alts := [], laidByText := true, laidKinds := [.data, .data, .data, .data, .widerDeep, .widerDeep, .widerDeep], laidTests := true, laidLooks := .later }
def EvaluePartsCardSaid : Prop := Claim7.holds Tryd.pinned (.plain (OpenSpec.ofChange evaluePartsSpec)) evaluePartsCard

/-- THE TIED CARD OF 'narthexlaw14.EvalueTexts'. -/
def evalueTextsCard : Claim7 := { stood := { row := evalueTextsRow, standIns := [], harness := (true, "054e2013a485a43f72d05d6687a0db305bbe96845a68981db7bc564b36225e54"), looks := false }, kinds := [], alts := [], laidByText := true, laidKinds := [.data, .data, .data, .data, .widerDeep, .widerDeep, .widerDeep], laidTests := true, laidLooks := .later }
def EvalueTextsCardSaid : Prop := Claim7.holds Tryd.pinned (.plain (OpenSpec.ofChange evalueTextsSpec)) evalueTextsCard

/-- THE SECOND FORM's CARD OF 'narthexlaw10.TagAgain'. -/
def tagAgainUptoCard : Claim7 := { stood := { row := tagAgainUptoRow, standIns := [], harness := (true, "054e2013a485a43f72d05d6687a0db305bbe96845a68981db7bc564b36225e54"), looks := false }, kinds := [], alts := [], laidByText := true, laidKinds := [.data, .widerDeep, .widerDeep, .widerDeep], laidTests := true, laidLooks := .later }
def TagAgainUptoCardSaid : Prop := Claim7.holds Tryd.pinned (.plain (OpenSpec.upto tagAgainSpec)) tagAgainUptoCard

/-- THE SECOND FORM's CARD OF 'narthexlaw10.TagPuts'. -/
def tagPutsUptoCard : Claim7 := { stood := { row := tagPutsUptoRow, standIns := [], harness := (true, "054e2013a485a43f72d05d6687a0db305bbe96845a68981db7bc564b36225e54"), looks := false }, kinds := [], alts := [], laidByText := true, laidKinds := [.data, .widerDeep, .widerDeep, .widerDeep], laidTests := true, laidLooks := .later }
def TagPutsUptoCardSaid : Prop := Claim7.holds Tryd.pinned (.plain (OpenSpec.upto tagPutsSpec)) tagPutsUptoCard

/-- THE SECOND FORM's CARD OF 'narthexlaw14.EvaluePuts'. -/
def evaluePutsUptoCard : Claim7 := { stood := { row := evaluePutsUptoRow, standIns := [], harness := (true, "054e2013a485a43f72d05d6687a0db305bbe96845a68981db7bc564b36225e54"), looks := false }, kinds := [], alts := [], laidByText := true, laidKinds := [.data, .data, .data, .data, .widerDeep, .widerDeep, .widerDeep], laidTests := true, laidLooks := .later }
def EvaluePutsUptoCardSaid : Prop := Claim7.holds Tryd.pinned (.plain (OpenSpec.upto evaluePutsSpec)) evaluePutsUptoCard

/-- THE SECOND FORM's CARD OF 'narthexlaw14.EvalueParts'. -/
def evaluePartsUptoCard : Claim7 := { stood := { row := evaluePartsUptoRow, standIns := [], harness := (true, "054e2013a485a43f72d05d6687a0db305bbe96845a68981db7bc564b36225e54"), looks := false }, kinds := [], alts := [], laidByText := true, laidKinds := [.data, .data, .data, .data, .widerDeep, .widerDeep, .widerDeep], laidTests := true, laidLooks := .later }
def EvaluePartsUptoCardSaid : Prop := Claim7.holds Tryd.pinned (.plain (OpenSpec.upto evaluePartsSpec)) evaluePartsUptoCard

/-- THE SECOND FORM's CARD OF 'narthexlaw14.EvalueTexts'. -/
def evalueTextsUptoCard : Claim7 := { stood := { row := evalueTextsUptoRow, standIns := [], harness := (true, "054e2013a485a43f72d05d6687a0db305bbe96845a68981db7bc564b36225e54"), looks := false }, kinds := [], alts := [], laidByText := true, laidKinds := [.data, .data, .data, .data, .widerDeep, .widerDeep, .widerDeep], laidTests := true, laidLooks := .later }
def EvalueTextsUptoCardSaid : Prop := Claim7.holds Tryd.pinned (.plain (OpenSpec.upto evalueTextsSpec)) evalueTextsUptoCard
end Rows
end Go.Proofs.YtpblphddpcogcaaDoor
