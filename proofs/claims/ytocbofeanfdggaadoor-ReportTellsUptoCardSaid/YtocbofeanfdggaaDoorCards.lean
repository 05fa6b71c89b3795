/-
  DERIVED. GIVEN WITH THE SEED: THE CARDS: each row of YtocbofeanfdggaaDoorRows.lean that lists a variable, with what it lists TIED to the program's text (the seventh form; the later family's looks); each row that meets fmt, with fmt's text TOLD by the authors' own Lean function (tested against real Go, not proved from fmt's source: count such statements apart). THE CARD IS WHAT COUNTS. Prove the row's statement (the work); the ties are given (YtocbofeanfdggaaDoorTie.lean); close each card by the builder's one call (the guide's Derived/Test/ToyasCard.lean, 'card_holds'). Laid BY PROGRAM, IN A SANDBOX (cutbox-door.mjs). By AI agents, Wed Nov 11 2026. No macro, syntax, notation, axiom, sorry.
-/
import Derived.Test.YtocbofeanfdggaaDoorRows
import GoSem.ClaimSeven
namespace Go.Proofs.YtocbofeanfdggaaDoor
namespace Rows

/-- THE TIED CARD OF 'narthexlaw44.ReportTells'. -/
def reportTellsCard : Claim7 := { stood := { row := reportTellsRow, standIns := [], harness := (true, "73a82f2d9d8f07ac7a11fac9b3bdacc58ba419bb006b0a4112010f3d0e923ba3"), looks := false }, kinds := [], alts := [], laidByText := true, laidKinds := [.data, .data, .data, .widerDeep, .widerDeep], laidTests := true, laidLooks := .later }
def ReportTellsCardSaid : Prop := Claim7.holds Tryd.pinned (.plain (OpenSpec.ofChange reportTellsSpec)) reportTellsCard

/-- THE TIED CARD OF 'narthexlaw40.CheckOnes'. -/
def checkOnesCard : Claim7 := { stood := { row := checkOnesRow, standIns := [], harness := (true, "73a82f2d9d8f07ac7a11fac9b3bdacc58ba419bb006b0a4112010f3d0e923ba3"), looks := false }, kinds := [], alts := [], laidByText := true, laidKinds := [.data, .data, .data, .data, .widerDeep, .widerDeep, .widerDeep, .pinned, .pinned], laidTests := true, laidLooks := .later }
def CheckOnesCardSaid : Prop := Claim7.holds Tryd.pinned (.plain (OpenSpec.ofChange checkOnesSpec)) checkOnesCard

/-- THE TIED CARD OF 'narthexlaw40.CheckAlls'. -/
def checkAllsCard : Claim7 := { stood := { row := checkAllsRow, standIns := [], harness := (true, "73a82f2d9d8f07ac7a11fac9b3bdacc58ba419bb006b0a4112010f3d0e923ba3"), looks := false }, kinds := [], alts := [], laidByText := true, laidKinds := [.data, .data, .data, .data, .widerDeep, .widerDeep, .widerDeep, .pinned, .pinned], laidTests := true, laidLooks := .later }
def CheckAllsCardSaid : Prop := Claim7.holds Tryd.pinned (.plain (OpenSpec.ofChange checkAllsSpec)) checkAllsCard

/-- THE SECOND FORM's CARD OF 'narthexlaw44.ReportTells'. -/
def reportTellsUptoCard : Claim7 := { stood := { row := reportTellsUptoRow, standIns := [], harness := (true, "73a82f2d9d8f07ac7a11fac9b3bdacc58ba419bb006b0a4112010f3d0e923ba3"), looks := false }, kinds := [], alts := [], laidByText := true, laidKinds := [.data, .data, .data, .widerDeep, .widerDeep], laidTests := true, laidLooks := .later }
def ReportTellsUptoCardSaid : Prop := Claim7.holds Tryd.pinned (.plain (OpenSpec.upto reportTellsSpec)) reportTellsUptoCard

/-- THE SECOND FORM's CARD OF 'narthexlaw40.CheckOnes'. -/
def checkOnesUptoCard : Claim7 := { stood := { row := checkOnesUptoRow, standIns := [], harness := (true, "73a82f2d9d8f07ac7a11fac9b3bdacc58ba419bb006b0a4112010f3d0e923ba3"), looks := false }, kinds := [], alts := [], laidByText := true, laidKinds := [.data, .data, .data, .data, .widerDeep, .widerDeep, .widerDeep, .pinned, .pinned], laidTests := true, laidLooks := .later }
def CheckOnesUptoCardSaid : Prop := Claim7.holds Tryd.pinned (.plain (OpenSpec.upto checkOnesSpec)) checkOnesUptoCard

/-- THE SECOND FORM's CARD OF 'narthexlaw40.CheckAlls'. -/
def checkAllsUptoCard : Claim7 := { stood := { row := checkAllsUptoRow, standIns := [], harness := (true, "73a82f2d9d8f07ac7a11fac9b3bdacc58ba419bb006b0a4112010f3d0e923ba3"), looks := false }, kinds := [], alts := [], laidByText := true, laidKinds := [.data, .data, .data, .data, .widerDeep, .widerDeep, .widerDeep, .pinned, .pinned], laidTests := true, laidLooks := .later }
def CheckAllsUptoCardSaid : Prop := Claim7.holds Tryd.pinned (.plain (OpenSpec.upto checkAllsSpec)) checkAllsUptoCard
end Rows
end Go.Proofs.YtocbofeanfdggaaDoor
