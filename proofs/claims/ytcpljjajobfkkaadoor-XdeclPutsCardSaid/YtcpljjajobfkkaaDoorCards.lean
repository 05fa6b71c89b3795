/-
  DERIVED. GIVEN WITH THE SEED: THE CARDS: each row of YtcpljjajobfkkaaDoorRows.lean that lists a variable, with what it lists TIED to the program's text (the seventh form; the later family's looks); each row that meets fmt, with fmt's text TOLD by the authors' own Lean function (tested against real Go, not proved from fmt's source: count such statements apart). THE CARD IS WHAT COUNTS. Prove the row's statement (the work); the ties are given (YtcpljjajobfkkaaDoorTie.lean); close each card by the builder's one call (the guide's Derived/Test/ToyasCard.lean, 'card_holds'). Laid BY PROGRAM, IN A SANDBOX (cutbox-door.mjs). By AI agents, Wed Nov 11 2026. No macro, syntax, notation, axiom, sorry.
-/
import Derived.Test.YtcpljjajobfkkaaDoorRows
import GoSem.ClaimSeven
namespace Go.Proofs.YtcpljjajobfkkaaDoor
namespace Rows

/-- THE TIED CARD OF 'narthexlaw10.TagReads'. -/
def tagReadsCard : Claim7 := { stood := { row := tagReadsRow, standIns := [], harness := (true, "47941532db3f9a48fc0f6624127595bc22b6bcd7f897aaa634a3d86727fc3108"), looks := false }, kinds := [], alts := [], laidByText := true, laidKinds := [.data, .widerDeep, .widerDeep, .widerDeep], laidTests := true, laidLooks := .later }
def TagReadsCardSaid : Prop := Claim7.holds Tryd.pinned (.plain (OpenSpec.ofChange tagReadsSpec)) tagReadsCard

/-- THE TIED CARD OF 'narthexlaw10.TagAgain'. -/
def tagAgainCard : Claim7 := { stood := { row := tagAgainRow, standIns := [], harness := (true, "47941532db3f9a48fc0f6624127595bc22b6bcd7f897aaa634a3d86727fc3108"), looks := false }, kinds := [], alts := [], laidByText := true, laidKinds := [.data, .widerDeep, .widerDeep, .widerDeep], laidTests := true, laidLooks := .later }
def TagAgainCardSaid : Prop := Claim7.holds Tryd.pinned (.plain (OpenSpec.ofChange tagAgainSpec)) tagAgainCard

/-- THE TIED CARD OF 'narthexlaw10.TagPuts'. -/
def tagPutsCard : Claim7 := { stood := { row := tagPutsRow, standIns := [], harness := (true, "47941532db3f9a48fc0f6624127595bc22b6bcd7f897aaa634a3d86727fc3108"), looks := false }, kinds := [], alts := [], laidByText := true, laidKinds := [.data, .widerDeep, .widerDeep, .widerDeep], laidTests := true, laidLooks := .later }
def TagPutsCardSaid : Prop := Claim7.holds Tryd.pinned (.plain (OpenSpec.ofChange tagPutsSpec)) tagPutsCard

/-- THE TIED CARD OF 'narthexlaw09.XdeclReads'. -/
def xdeclReadsCard : Claim7 := { stood := { row := xdeclReadsRow, standIns := [], harness := (true, "47941532db3f9a48fc0f6624127595bc22b6bcd7f897aaa634a3d86727fc3108"), looks := false }, kinds := [], alts := [], laidByText := true, laidKinds := [.data, .data, .data, .pinned, .pinned], laidTests := true, laidLooks := .later }
def XdeclReadsCardSaid : Prop := Claim7.holds Tryd.pinned (.plain (OpenSpec.ofChange xdeclReadsSpec)) xdeclReadsCard

/-- THE TIED CARD OF 'narthexlaw09.XdeclBlanks'. -/
def xdeclBlanksCard : Claim7 := { stood := { row := xdeclBlanksRow, standIns := [], harness := (true, "47941532db3f9a48fc0f6624127595bc22b6bcd7f897aaa634a3d86727fc3108"), looks := false }, kinds := [], alts := [], laidByText := true, laidKinds := [.data, .data, .data, .pinned, .pinned], laidTests := true, laidLooks := .later }
def XdeclBlanksCardSaid : Prop := Claim7.holds Tryd.pinned (.plain (OpenSpec.ofChange xdeclBlanksSpec)) xdeclBlanksCard

/-- THE TIED CARD OF 'narthexlaw09.XdeclPuts'. -/
def xdeclPutsCard : Claim7 := { stood := { row := xdeclPutsRow, standIns := [], harness := (true, "47941532db3f9a48fc0f6624127595bc22b6bcd7f897aaa634a3d86727fc3108"), looks := false }, kinds := [], alts := [], laidByText := true, laidKinds := [.data, .data, .data, .pinned, .pinned], laidTests := true, laidLooks := .later }
def XdeclPutsCardSaid : Prop := Claim7.holds Tryd.pinned (.plain (OpenSpec.ofChange xdeclPutsSpec)) xdeclPutsCard

/-- THE SECOND FORM's CARD OF 'narthexlaw10.TagReads'. -/
def tagReadsUptoCard : Claim7 := { stood := { row := tagReadsUptoRow, standIns := [], harness := (true, "47941532db3f9a48fc0f6624127595bc22b6bcd7f897aaa634a3d86727fc3108"), looks := false }, kinds := [], alts := [], laidByText := true, laidKinds := [.data, .widerDeep, .widerDeep, .widerDeep], laidTests := true, laidLooks := .later }
def TagReadsUptoCardSaid : Prop := Claim7.holds Tryd.pinned (.plain (OpenSpec.upto tagReadsSpec)) tagReadsUptoCard

/-- THE SECOND FORM's CARD OF 'narthexlaw10.TagAgain'. -/
def tagAgainUptoCard : Claim7 := { stood := { row := tagAgainUptoRow, standIns := [], harness := (true, "47941532db3f9a48fc0f6624127595bc22b6bcd7f897aaa634a3d86727fc3108"), looks := false }, kinds := [], alts := [], laidByText := true, laidKinds := [.data, .widerDeep, .widerDeep, .widerDeep], laidTests := true, laidLooks := .later }
def TagAgainUptoCardSaid : Prop := Claim7.holds Tryd.pinned (.plain (OpenSpec.upto tagAgainSpec)) tagAgainUptoCard

/-- THE SECOND FORM's CARD OF 'narthexlaw10.TagPuts'. -/
def tagPutsUptoCard : Claim7 := { stood := { row := tagPutsUptoRow, standIns := [], harness := (true, "47941532db3f9a48fc0f6624127595bc22b6bcd7f897aaa634a3d86727fc3108"), looks := false }, kinds := [], alts := [], laidByText := true, laidKinds := [.data, .widerDeep, .widerDeep, .widerDeep], laidTests := true, laidLooks := .later }
def TagPutsUptoCardSaid : Prop := Claim7.holds Tryd.pinned (.plain (OpenSpec.upto tagPutsSpec)) tagPutsUptoCard

/-- THE SECOND FORM's CARD OF 'narthexlaw09.XdeclReads'. -/
def xdeclReadsUptoCard : Claim7 := { stood := { row := xdeclReadsUptoRow, standIns := [], harness := (true, "47941532db3f9a48fc0f6624127595bc22b6bcd7f897aaa634a3d86727fc3108"), looks := false }, kinds := [], alts := [], laidByText := true, laidKinds := [.data, .data, .data, .pinned, .pinned], laidTests := true, laidLooks := .later }
def XdeclReadsUptoCardSaid : Prop := Claim7.holds Tryd.pinned (.plain (OpenSpec.upto xdeclReadsSpec)) xdeclReadsUptoCard

/-- THE SECOND FORM's CARD OF 'narthexlaw09.XdeclBlanks'. -/
def xdeclBlanksUptoCard : Claim7 := { stood := { row := xdeclBlanksUptoRow, standIns := [], harness := (true, "47941532db3f9a48fc0f6624127595bc22b6bcd7f897aaa634a3d86727fc3108"), looks := false }, kinds := [], alts := [], laidByText := true, laidKinds := [.data, .data, .data, .pinned, .pinned], laidTests := true, laidLooks := .later }
def XdeclBlanksUptoCardSaid : Prop := Claim7.holds Tryd.pinned (.plain (OpenSpec.upto xdeclBlanksSpec)) xdeclBlanksUptoCard

/-- THE SECOND FORM's CARD OF 'narthexlaw09.XdeclPuts'. -/
def xdeclPutsUptoCard : Claim7 := { stood := { row := xdeclPutsUptoRow, standIns := [], harness := (true, "47941532db3f9a48fc0f6624127595bc22b6bcd7f897aaa634a3d86727fc3108"), looks := false }, kinds := [], alts := [], laidByText := true, laidKinds := [.data, .data, .data, .pinned, .pinned], laidTests := true, laidLooks := .later }
def XdeclPutsUptoCardSaid : Prop := Claim7.holds Tryd.pinned (.plain (OpenSpec.upto xdeclPutsSpec)) xdeclPutsUptoCard
end Rows
end Go.Proofs.YtcpljjajobfkkaaDoor
