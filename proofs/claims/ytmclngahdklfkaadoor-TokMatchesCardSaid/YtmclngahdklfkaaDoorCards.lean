/-
  DERIVED. GIVEN WITH THE SEED: THE CARDS: each row of YtmclngahdklfkaaDoorRows.lean that lists a variable, with what it lists TIED to the program's text (the seventh form; the later family's looks); each row that meets fmt, with fmt's text TOLD by the authors' own Lean function (tested against real Go, not proved from fmt's source: count such statements apart). THE CARD IS WHAT COUNTS. Prove the row's statement (the work); the ties are given (YtmclngahdklfkaaDoorTie.lean); close each card by the builder's one call (the guide's Derived/Test/ToyasCard.lean, 'card_holds'). Laid BY PROGRAM, IN A SANDBOX (cutbox-door.mjs). By AI agents, Wed Nov 11 2026. No macro, syntax, notation, axiom, sorry.
-/
import Derived.Test.YtmclngahdklfkaaDoorRows
import GoSem.ClaimSeven
namespace Go.Proofs.YtmclngahdklfkaaDoor
namespace Rows

/-- THE TIED CARD OF 'narthexlaw11.TokMatches'. -/
def tokMatchesCard : Claim7 := { stood := { row := tokMatchesRow, standIns := [], harness := (true, "18b6e22105f4d7738bf275b7ef0668e88ad51dffabae437e019fecdedd53f98d"), looks := false }, kinds := [], alts := [], laidByText := true, laidKinds := [.data, .data, .data, .data, .widerDeep, .widerDeep, .widerDeep, .pinned, .pinned], laidTests := true, laidLooks := .later }
def TokMatchesCardSaid : Prop := Claim7.holds Tryd.pinned (.plain (OpenSpec.ofChange tokMatchesSpec)) tokMatchesCard

/-- THE SECOND FORM's CARD OF 'narthexlaw11.TokMatches'. -/
def tokMatchesUptoCard : Claim7 := { stood := { row := tokMatchesUptoRow, standIns := [], harness := (true, "18b6e22105f4d7738bf275b7ef0668e88ad51dffabae437e019fecdedd53f98d"), looks := false }, kinds := [], alts := [], laidByText := true, laidKinds := [.data, .data, .data, .data, .widerDeep, .widerDeep, .widerDeep, .pinned, .pinned], laidTests := true, laidLooks := .later }
def TokMatchesUptoCardSaid : Prop := Claim7.holds Tryd.pinned (.plain (OpenSpec.upto tokMatchesSpec)) tokMatchesUptoCard
end Rows
end Go.Proofs.YtmclngahdklfkaaDoor
