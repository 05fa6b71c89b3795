/-
  DERIVED. GIVEN WITH THE SEED: THE CARDS: each row of YteighjiocgdgaaaDoorRows.lean that lists a variable, with what it lists TIED to the program's text (the seventh form; the later family's looks); each row that meets fmt, with fmt's text TOLD by the authors' own Lean function (tested against real Go, not proved from fmt's source: count such statements apart). THE CARD IS WHAT COUNTS. Prove the row's statement (the work); the ties are given (YteighjiocgdgaaaDoorTie.lean); close each card by the builder's one call (the guide's Derived/Test/ToyasCard.lean, 'card_holds'). Laid BY PROGRAM, IN A SANDBOX (cutbox-door.mjs). By AI agents, Wed Nov 11 2026. No macro, syntax, notation, axiom, sorry.
-/
import Derived.Test.YteighjiocgdgaaaDoorRows
import GoSem.ClaimSeven
namespace Go.Proofs.YteighjiocgdgaaaDoor
namespace Rows

/-- THE TIED CARD OF 'narthexlaw10.TagReads'. -/
def tagReadsCard : Claim7 := { stood := { row := tagReadsRow, standIns := [], harness := (true, "d9f323c4aa2eb13f889e5231d23b36b6f8b3551286c05f8a118ed9d072f79904"), looks := false }, kinds := [], alts := [], laidByText := true, laidKinds := [.data, .widerDeep, .widerDeep, .widerDeep], laidTests := true, laidLooks := .later }
def TagReadsCardSaid : Prop := Claim7.holds Tryd.pinned (.plain (OpenSpec.ofChange tagReadsSpec)) tagReadsCard

/-- THE TIED CARD OF 'narthexlaw10.TagAgain'. -/
def tagAgainCard : Claim7 := { stood := { row := tagAgainRow, standIns := [], harness := (true, "d9f323c4aa2eb13f889e5231d23b36b6f8b3551286c05f8a118ed9d072f79904"), looks := false }, kinds := [], alts := [], laidByText := true, laidKinds := [.data, .widerDeep, .widerDeep, .widerDeep], laidTests := true, laidLooks := .later }
def TagAgainCardSaid : Prop := Claim7.holds Tryd.pinned (.plain (OpenSpec.ofChange tagAgainSpec)) tagAgainCard

/-- THE TIED CARD OF 'narthexlaw10.TagPuts'. -/
def tagPutsCard : Claim7 := { stood := { row := tagPutsRow, standIns := [], harness := (true, "d9f323c4aa2eb13f889e5231d23b36b6f8b3551286c05f8a118ed9d072f79904"), looks := false }, kinds := [], alts := [], laidByText := true, laidKinds := [.data, .widerDeep, .widerDeep, .widerDeep], laidTests := true, laidLooks := .later }
def TagPutsCardSaid : Prop := Claim7.holds Tryd.pinned (.plain (OpenSpec.ofChange tagPutsSpec)) tagPutsCard

/-- THE TIED CARD OF 'narthexlaw09.XdeclReads'. -/
def xdeclReadsCard : Claim7 := { stood := { row := xdeclReadsRow, standIns := [], harness := (true, "d9f323c4aa2eb13f889e5231d23b36b6f8b3551286c05f8a118ed9d072f79904"), looks := false }, kinds := [], alts := [], laidByText := true, laidKinds := [.data, .data, .data, .pinned, .pinned], laidTests := true, laidLooks := .later }
def XdeclReadsCardSaid : Prop := Claim7.holds Tryd.pinned (.plain (OpenSpec.ofChange xdeclReadsSpec)) xdeclReadsCard

/-- THE TIED CARD OF 'narthexlaw09.XdeclBlanks'. -/
def xdeclBlanksCard : Claim7 := { stood := { row := xdeclBlanksRow, standIns := [], harness := (true, "d9f323c4aa2eb13f889e5231d23b36b6f8b3551286c05f8a118ed9d072f79904"), looks := false }, kinds := [], alts := [], laidByText := true, laidKinds := [.data, .data, .data, .pinned, .pinned], laidTests := true, laidLooks := .later }
def XdeclBlanksCardSaid : Prop := Claim7.holds Tryd.pinned (.plain (OpenSpec.ofChange xdeclBlanksSpec)) xdeclBlanksCard

/-- THE TIED CARD OF 'narthexlaw08.MiscReads'. -/
def miscReadsCard : Claim7 := { stood := { row := miscReadsRow, standIns := [], harness := (true, "d9f323c4aa2eb13f889e5231d23b36b6f8b3551286c05f8a118ed9d072f79904"), looks := false }, kinds := [], alts := [], laidByText := true, laidKinds := [.data, .data, .data, .data, .widerDeep, .widerDeep, .pinned, .pinned], laidTests := true, laidLooks := .later }
def MiscReadsCardSaid : Prop := Claim7.holds Tryd.pinned (.plain (OpenSpec.ofChange miscReadsSpec)) miscReadsCard

/-- THE TIED CARD OF 'narthexlaw08.MiscPuts'. -/
def miscPutsCard : Claim7 := { stood := { row := miscPutsRow, standIns := [], harness := (true, "d9f323c4aa2eb13f889e5231d23b36b6f8b3551286c05f8a118ed9d072f79904"), looks := false }, kinds := [], alts := [], laidByText := true, laidKinds := [.data, .data, .data, .data, .widerDeep, .widerDeep, .pinned, .pinned], laidTests := true, laidLooks := .later }
def MiscPutsCardSaid : Prop := Claim7.holds Tryd.pinned (.plain (OpenSpec.ofChange miscPutsSpec)) miscPutsCard

/-- THE TIED CARD OF 'narthexlaw08.MiscPis'. -/
def miscPisCard : Claim7 := { stood := { row := miscPisRow, standIns := [], harness := (true, "d9f323c4aa2eb13f889e5231d23b36b6f8b3551286c05f8a118ed9d072f79904"), looks := false }, kinds := [], alts := [], laidByText := true, laidKinds := [.data, .data, .data, .data, .widerDeep, .widerDeep, .pinned, .pinned], laidTests := true, laidLooks := .later }
def MiscPisCardSaid : Prop := Claim7.holds Tryd.pinned (.plain (OpenSpec.ofChange miscPisSpec)) miscPisCard

/-- THE TIED CARD OF 'narthexlaw09.XdeclPuts'. -/
def xdeclPutsCard : Claim7 := { stood := { row := xdeclPutsRow, standIns := [], harness := (true, "d9f323c4aa2eb13f889e5231d23b36b6f8b3551286c05f8a118ed9d072f79904"), looks := false }, kinds := [], alts := [], laidByText := true, laidKinds := [.data, .data, .data, .pinned, .pinned], laidTests := true, laidLooks := .later }
def XdeclPutsCardSaid : Prop := Claim7.holds Tryd.pinned (.plain (OpenSpec.ofChange xdeclPutsSpec)) xdeclPutsCard

/-- THE TIED CARD OF 'narthexlaw14.EvaluePuts'. -/
def evaluePutsCard : Claim7 := { stood := { row := evaluePutsRow, standIns := [], harness := (true, "d9f323c4aa2eb13f889e5231d23b36b6f8b3551286c05f8a118ed9d072f79904"), looks := false }, kinds := [], alts := [], laidByText := true, laidKinds := [.data, .data, .data, .data, .widerDeep, .widerDeep, .widerDeep], laidTests := true, laidLooks := .later }
def EvaluePutsCardSaid : Prop := Claim7.holds Tryd.pinned (.plain (OpenSpec.ofChange evaluePutsSpec)) evaluePutsCard

/-- THE TIED CARD OF 'narthexlaw14.EvalueParts'. -/
def evaluePartsCard : Claim7 := { stood := { row := evaluePartsRow, standIns := [], harness := (true, "d9f323c4aa2eb13f889e5231d23b36b6f8b3551286c05f8a118ed9d072f79904"), looks := false }, kinds := [], alts := [], laidByText := true, laidKinds := [.data, .data, .data, .data, .widerDeep, .widerDeep, .widerDeep], laidTests := true, laidLooks := .later }
def EvaluePartsCardSaid : Prop := Claim7.holds Tryd.pinned (.plain (OpenSpec.ofChange evaluePartsSpec)) evaluePartsCard

/-- THE TIED CARD OF 'narthexlaw14.EvalueTexts'. -/
def evalueTextsCard : Claim7 := { stood := { row := evalueTextsRow, standIns := [], harness := (true, "d9f323c4aa2eb13f889e5231d23b36b6f8b3551286c05f8a118ed9d072f79904"), looks := false }, kinds := [], alts := [], laidByText := true, laidKinds := [.data, .data, .data, .data, .widerDeep, .widerDeep, .widerDeep], laidTests := true, laidLooks := .later }
def EvalueTextsCardSaid : Prop := Claim7.holds Tryd.pinned (.plain (OpenSpec.ofChange evalueTextsSpec)) evalueTextsCard

/-- THE SECOND FORM's CARD OF 'narthexlaw10.TagReads'. -/
def tagReadsUptoCard : Claim7 := { stood := { row := tagReadsUptoRow, standIns := [], harness := (true, "d9f323c4aa2eb13f889e5231d23b36b6f8b3551286c05f8a118ed9d072f79904"), looks := false }, kinds := [], alts := [], laidByText := true, laidKinds := [.data, .widerDeep, .widerDeep, .widerDeep], laidTests := true, laidLooks := .later }
def TagReadsUptoCardSaid : Prop := Claim7.holds Tryd.pinned (.plain (OpenSpec.upto tagReadsSpec)) tagReadsUptoCard

/-- THE SECOND FORM's CARD OF 'narthexlaw10.TagAgain'. -/
def tagAgainUptoCard : Claim7 := { stood := { row := tagAgainUptoRow, standIns := [], harness := (true, "d9f323c4aa2eb13f889e5231d23b36b6f8b3551286c05f8a118ed9d072f79904"), looks := false }, kinds := [], alts := [], laidByText := true, laidKinds := [.data, .widerDeep, .widerDeep, .widerDeep], laidTests := true, laidLooks := .later }
def TagAgainUptoCardSaid : Prop := Claim7.holds Tryd.pinned (.plain (OpenSpec.upto tagAgainSpec)) tagAgainUptoCard

/-- THE SECOND FORM's CARD OF 'narthexlaw10.TagPuts'. -/
def tagPutsUptoCard : Claim7 := { stood := { row := tagPutsUptoRow, standIns := [], harness := (true, "d9f323c4aa2eb13f889e5231d23b36b6f8b3551286c05f8a118ed9d072f79904"), looks := false }, kinds := [], alts := [], laidByText := true, laidKinds := [.data, .widerDeep, .widerDeep, .widerDeep], laidTests := true, laidLooks := .later }
def TagPutsUptoCardSaid : Prop := Claim7.holds Tryd.pinned (.plain (OpenSpec.upto tagPutsSpec)) tagPutsUptoCard

/-- THE SECOND FORM's CARD OF 'narthexlaw09.XdeclReads'. -/
def xdeclReadsUptoCard : Claim7 := { stood := { row := xdeclReadsUptoRow, standIns := [], harness := (true, "d9f323c4aa2eb13f889e5231d23b36b6f8b3551286c05f8a118ed9d072f79904"), looks := false }, kinds := [], alts := [], laidByText := true, laidKinds := [.data, .data, .data, .pinned, .pinned], laidTests := true, laidLooks := .later }
def XdeclReadsUptoCardSaid : Prop := Claim7.holds Tryd.pinned (.plain (OpenSpec.upto xdeclReadsSpec)) xdeclReadsUptoCard

/-- THE SECOND FORM's CARD OF 'narthexlaw09.XdeclBlanks'. -/
def xdeclBlanksUptoCard : Claim7 := { stood := { row := xdeclBlanksUptoRow, standIns := [], harness := (true, "d9f323c4aa2eb13f889e5231d23b36b6f8b3551286c05f8a118ed9d072f79904"), looks := false }, kinds := [], alts := [], laidByText := true, laidKinds := [.data, .data, .data, .pinned, .pinned], laidTests := true, laidLooks := .later }
def XdeclBlanksUptoCardSaid : Prop := Claim7.holds Tryd.pinned (.plain (OpenSpec.upto xdeclBlanksSpec)) xdeclBlanksUptoCard

/-- THE SECOND FORM's CARD OF 'narthexlaw08.MiscReads'. -/
def miscReadsUptoCard : Claim7 := { stood := { row := miscReadsUptoRow, standIns := [], harness := (true, "d9f323c4aa2eb13f889e5231d23b36b6f8b3551286c05f8a118ed9d072f79904"), looks := false }, kinds := [], alts := [], laidByText := true, laidKinds := [.data, .data, .data, .data, .widerDeep, .widerDeep, .pinned, .pinned], laidTests := true, laidLooks := .later }
def MiscReadsUptoCardSaid : Prop := Claim7.holds Tryd.pinned (.plain (OpenSpec.upto miscReadsSpec)) miscReadsUptoCard

/-- THE SECOND FORM's CARD OF 'narthexlaw08.MiscPuts'. -/
def miscPutsUptoCard : Claim7 := { stood := { row := miscPutsUptoRow, standIns := [], harness := (true, "d9f323c4aa2eb13f889e5231d23b36b6f8b3551286c05f8a118ed9d072f79904"), looks := false }, kinds := [], alts := [], laidByText := true, laidKinds := [.data, .data, .data, .data, .widerDeep, .widerDeep, .pinned, .pinned], laidTests := true, laidLooks := .later }
def MiscPutsUptoCardSaid : Prop := Claim7.holds Tryd.pinned (.plain (OpenSpec.upto miscPutsSpec)) miscPutsUptoCard

/-- THE SECOND FORM's CARD OF 'narthexlaw08.MiscPis'. -/
def miscPisUptoCard : Claim7 := { stood := { row := miscPisUptoRow, standIns := [], harness := (true, "d9f323c4aa2eb13f889e5231d23b36b6f8b3551286c05f8a118ed9d072f79904"), looks := false }, kinds := [], alts := [], laidByText := true, laidKinds := [.data, .data, .data, .data, .widerDeep, .widerDeep, .pinned, .pinned], laidTests := true, laidLooks := .later }
def MiscPisUptoCardSaid : Prop := Claim7.holds Tryd.pinned (.plain (OpenSpec.upto miscPisSpec)) miscPisUptoCard

/-- THE SECOND FORM's CARD OF 'narthexlaw09.XdeclPuts'. -/
def xdeclPutsUptoCard : Claim7 := { stood := { row := xdeclPutsUptoRow, standIns := [], harness := (true, "d9f323c4aa2eb13f889e5231d23b36b6f8b3551286c05f8a118ed9d072f79904"), looks := false }, kinds := [], alts := [], laidByText := true, laidKinds := [.data, .data, .data, .pinned, .pinned], laidTests := true, laidLooks := .later }
def XdeclPutsUptoCardSaid : Prop := Claim7.holds Tryd.pinned (.plain (OpenSpec.upto xdeclPutsSpec)) xdeclPutsUptoCard

/-- THE SECOND FORM's CARD OF 'narthexlaw14.EvaluePuts'. -/
def evaluePutsUptoCard : Claim7 := { stood := { row := evaluePutsUptoRow, standIns := [], harness := (true, "d9f323c4aa2eb13f889e5231d23b36b6f8b3551286c05f8a118ed9d072f79904"), looks := false }, kinds := [], alts := [], laidByText := true, laidKinds := [.data, .data, .data, .data, .widerDeep, .widerDeep, .widerDeep], laidTests := true, laidLooks := .later }
def EvaluePutsUptoCardSaid : Prop := Claim7.holds Tryd.pinned (.plain (OpenSpec.upto evaluePutsSpec)) evaluePutsUptoCard

/-- THE SECOND FORM's CARD OF 'narthexlaw14.EvalueParts'. -/
def evaluePartsUptoCard : Claim7 := { stood := { row := evaluePartsUptoRow, standIns := [], harness := (true, "d9f323c4aa2eb13f889e5231d23b36b6f8b3551286c05f8a118ed9d072f79904"), looks := false }, kinds := [], alts := [], laidByText := true, laidKinds := [.data, .data, .data, .data, .widerDeep, .widerDeep, .widerDeep], laidTests := true, laidLooks := .later }
def EvaluePartsUptoCardSaid : Prop := Claim7.holds Tryd.pinned (.plain (OpenSpec.upto evaluePartsSpec)) evaluePartsUptoCard

/-- THE SECOND FORM's CARD OF 'narthexlaw14.EvalueTexts'. -/
def evalueTextsUptoCard : Claim7 := { stood := { row := evalueTextsUptoRow, standIns := [], harness := (true, "d9f323c4aa2eb13f889e5231d23b36b6f8b3551286c05f8a118ed9d072f79904"), looks := false }, kinds := [], alts := [], laidByText := true, laidKinds := [.data, .data, .data, .data, .widerDeep, .widerDeep, .widerDeep], laidTests := true, laidLooks := .later }
def EvalueTextsUptoCardSaid : Prop := Claim7.holds Tryd.pinned (.plain (OpenSpec.upto evalueTextsSpec)) evalueTextsUptoCard
end Rows
end Go.Proofs.YteighjiocgdgaaaDoor
