/-
  No cell of these rows narrows 'for every input' (looked for: loops, veiled, ifaces, maps, wideKeys, modest, calm, conditions, laid).
  DERIVED. THE GIVEN ROWS OF THIS SEAT. 4 by the template 'for every input the law returns true; each argument reads behind the call as it read before'; 0 by the template 'total and deterministic' (their statements: YtnbfmbkglkjhmaaTotals.lean).
  GIVEN WITH THE SEED: the statements are not yours to turn. If you find one false, say at which input.
  Laid BY PROGRAM, IN A SANDBOX (cutbox-rows.mjs): the forced cells as the released guide's own fill.sh prints them over the translation a8d5e01d52082265… (all of the seat's roots in one cut). By AI agents, Wed Nov 11 2026. No macro, syntax, notation, axiom, sorry.
-/
import Derived.Test.YtnbfmbkglkjhmaaChecked
import GoSem.Claim
import GoSem.ClaimJoined
import GoSem.ClaimMapViews
import Derived.JoinedTies
import Derived.KernelRfl
namespace Go.Proofs.Ytnbfmbkglkjhmaa
/- THE CELL 'sum', in the pinned program and in every row, IS THE sha256 OF THE DUMP (.gsa) THAT YtnbfmbkglkjhmaaProg.lean LOADS. Nothing in Lean hashes anything: it is a label: what it is worth is what the hold of that sum in a sandbox is worth. -/
noncomputable def Try.pinned : Pinned := { name := "ytnbfmbkglkjhmaa", sum := "a8d5e01d5208226525826a88b9181e631da7169e53de845df694816c1ca4b4aa", checked := Try.checked }
namespace Rows
def none {H : Type} : Left H := { results := [], args := [] }

/-- 'narthexlaw38.PumpPlays': WHATEVER THE INPUT: true; the input reads as it did. -/
def pumpPlaysSpec : ChangeSpec := { name := "pumpPlays", fn := fun _ => fun
  | [d1, d2, d3] => { results := [.lit (.bool true)], args := [d1, d2, d3] }
  | _ => none }
def pumpPlaysRow : OpenClaim := { program := "ytnbfmbkglkjhmaa", sum := "a8d5e01d5208226525826a88b9181e631da7169e53de845df694816c1ca4b4aa", func := "narthex/narthexlaw38.PumpPlays", spec := "pumpPlays", unfollowed := true, recurses := true, leaving := true, apart := false }
def PumpPlaysSaid : Prop := pumpPlaysRow.holds Try.pinned (OpenSpec.ofChange pumpPlaysSpec)

/-- ITS FALSE NEIGHBOUR: 'it returns false'. Refute it at one input. -/
def pumpPlaysWrong : ChangeSpec := { name := "pumpPlays", fn := fun _ => fun
  | [d1, d2, d3] => { results := [.lit (.bool false)], args := [d1, d2, d3] }
  | _ => none }
def PumpPlaysWrongFalsely : Prop := pumpPlaysRow.holds Try.pinned (OpenSpec.ofChange pumpPlaysWrong)

/-- 'narthexlaw38.PumpStops': WHATEVER THE INPUT: true; the input reads as it did. -/
def pumpStopsSpec : ChangeSpec := { name := "pumpStops", fn := fun _ => fun
  | [d1, d2] => { results := [.lit (.bool true)], args := [d1, d2] }
  | _ => none }
def pumpStopsRow : OpenClaim := { program := "ytnbfmbkglkjhmaa", sum := "a8d5e01d5208226525826a88b9181e631da7169e53de845df694816c1ca4b4aa", func := "narthex/narthexlaw38.PumpStops", spec := "pumpStops", unfollowed := true, recurses := true, leaving := true, apart := false }
def PumpStopsSaid : Prop := pumpStopsRow.holds Try.pinned (OpenSpec.ofChange pumpStopsSpec)

/-- ITS FALSE NEIGHBOUR: 'it returns false'. Refute it at one input. -/
def pumpStopsWrong : ChangeSpec := { name := "pumpStops", fn := fun _ => fun
  | [d1, d2] => { results := [.lit (.bool false)], args := [d1, d2] }
  | _ => none }
def PumpStopsWrongFalsely : Prop := pumpStopsRow.holds Try.pinned (OpenSpec.ofChange pumpStopsWrong)

/-- 'narthexlaw38.PumpTakes': WHATEVER THE INPUT: true; the input reads as it did. -/
def pumpTakesSpec : ChangeSpec := { name := "pumpTakes", fn := fun _ => fun
  | [d1, d2, d3] => { results := [.lit (.bool true)], args := [d1, d2, d3] }
  | _ => none }
def pumpTakesRow : OpenClaim := { program := "ytnbfmbkglkjhmaa", sum := "a8d5e01d5208226525826a88b9181e631da7169e53de845df694816c1ca4b4aa", func := "narthex/narthexlaw38.PumpTakes", spec := "pumpTakes", unfollowed := true, recurses := true, leaving := true, apart := false }
def PumpTakesSaid : Prop := pumpTakesRow.holds Try.pinned (OpenSpec.ofChange pumpTakesSpec)

/-- ITS FALSE NEIGHBOUR: 'it returns false'. Refute it at one input. -/
def pumpTakesWrong : ChangeSpec := { name := "pumpTakes", fn := fun _ => fun
  | [d1, d2, d3] => { results := [.lit (.bool false)], args := [d1, d2, d3] }
  | _ => none }
def PumpTakesWrongFalsely : Prop := pumpTakesRow.holds Try.pinned (OpenSpec.ofChange pumpTakesWrong)

/-- 'narthexlaw38.PumpNils': WHATEVER THE INPUT: true; the input reads as it did. -/
def pumpNilsSpec : ChangeSpec := { name := "pumpNils", fn := fun _ => fun
  | [d] => { results := [.lit (.bool true)], args := [d] }
  | _ => none }
def pumpNilsRow : OpenClaim := { program := "ytnbfmbkglkjhmaa", sum := "a8d5e01d5208226525826a88b9181e631da7169e53de845df694816c1ca4b4aa", func := "narthex/narthexlaw38.PumpNils", spec := "pumpNils", unfollowed := true, recurses := true, leaving := true, apart := false }
def PumpNilsSaid : Prop := pumpNilsRow.holds Try.pinned (OpenSpec.ofChange pumpNilsSpec)

/-- ITS FALSE NEIGHBOUR: 'it returns false'. Refute it at one input. -/
def pumpNilsWrong : ChangeSpec := { name := "pumpNils", fn := fun _ => fun
  | [d] => { results := [.lit (.bool false)], args := [d] }
  | _ => none }
def PumpNilsWrongFalsely : Prop := pumpNilsRow.holds Try.pinned (OpenSpec.ofChange pumpNilsWrong)

/- THE SECOND FORM. 'bulk': how many values and letters a reading holds, each counted each time it is reached (what is shared counts as often as it is met; a slice's spare places count too). A statement '..UptoSaid' is the law's where the arguments, and the package variables that the reading takes, are together of bulk at most 1048576: NARROWER than '..Said'. Prove '..Said' where nothing that the law and all that it calls make is longer than what came in: it says more and counts as full. Else prove '..UptoSaid'. A law counts once. -/
mutual
def uptoBulk {H : Type} : DataW H → Nat
  | .lit (.string bytes) => bytes.length + 1
  | .lit _ => 1
  | .nil => 1
  | .ptr d => uptoBulk d + 1
  | .slice elems spare => uptoBulkAll elems + uptoBulkAll spare + 1
  | .agg parts => uptoBulkAll parts + 1
  | .iface _ d => uptoBulk d + 1
  | .map entries => uptoBulkEntries entries + 1
  | .held _ => 1
def uptoBulkAll {H : Type} : List (DataW H) → Nat
  | [] => 0
  | d :: r => uptoBulk d + uptoBulkAll r
def uptoBulkEntries {H : Type} : List (Lit × DataW H) → Nat
  | [] => 0
  | x :: r => uptoBulkEntry x + uptoBulkEntries r
def uptoBulkEntry {H : Type} : Lit × DataW H → Nat
  | (.string bytes, d) => bytes.length + uptoBulk d + 1
  | (_, d) => uptoBulk d + 1
 end
def uptoSmall : (H : Type) → List (DataW H) → Bool := fun _ ds => decide (uptoBulkAll ds ≤ 1048576)
def OpenSpec.upto (s : _root_.Go.ChangeSpec) : _root_.Go.OpenSpec := { _root_.Go.OpenSpec.ofChange s with cond := some uptoSmall }

/-- 'narthexlaw38.PumpPlays', WHERE WHAT IT READS IS OF BULK AT MOST 1048576: true; the input reads as it did. -/
def pumpPlaysUptoRow : OpenClaim := { program := "ytnbfmbkglkjhmaa", sum := "a8d5e01d5208226525826a88b9181e631da7169e53de845df694816c1ca4b4aa", func := "narthex/narthexlaw38.PumpPlays", spec := "pumpPlays", unfollowed := true, recurses := true, leaving := true, apart := false, narrowed := true }
def PumpPlaysUptoSaid : Prop := pumpPlaysUptoRow.holds Try.pinned (OpenSpec.upto pumpPlaysSpec)

/-- 'narthexlaw38.PumpStops', WHERE WHAT IT READS IS OF BULK AT MOST 1048576: true; the input reads as it did. -/
def pumpStopsUptoRow : OpenClaim := { program := "ytnbfmbkglkjhmaa", sum := "a8d5e01d5208226525826a88b9181e631da7169e53de845df694816c1ca4b4aa", func := "narthex/narthexlaw38.PumpStops", spec := "pumpStops", unfollowed := true, recurses := true, leaving := true, apart := false, narrowed := true }
def PumpStopsUptoSaid : Prop := pumpStopsUptoRow.holds Try.pinned (OpenSpec.upto pumpStopsSpec)

/-- 'narthexlaw38.PumpTakes', WHERE WHAT IT READS IS OF BULK AT MOST 1048576: true; the input reads as it did. -/
def pumpTakesUptoRow : OpenClaim := { program := "ytnbfmbkglkjhmaa", sum := "a8d5e01d5208226525826a88b9181e631da7169e53de845df694816c1ca4b4aa", func := "narthex/narthexlaw38.PumpTakes", spec := "pumpTakes", unfollowed := true, recurses := true, leaving := true, apart := false, narrowed := true }
def PumpTakesUptoSaid : Prop := pumpTakesUptoRow.holds Try.pinned (OpenSpec.upto pumpTakesSpec)

/-- 'narthexlaw38.PumpNils', WHERE WHAT IT READS IS OF BULK AT MOST 1048576: true; the input reads as it did. -/
def pumpNilsUptoRow : OpenClaim := { program := "ytnbfmbkglkjhmaa", sum := "a8d5e01d5208226525826a88b9181e631da7169e53de845df694816c1ca4b4aa", func := "narthex/narthexlaw38.PumpNils", spec := "pumpNils", unfollowed := true, recurses := true, leaving := true, apart := false, narrowed := true }
def PumpNilsUptoSaid : Prop := pumpNilsUptoRow.holds Try.pinned (OpenSpec.upto pumpNilsSpec)

end Rows
end Go.Proofs.Ytnbfmbkglkjhmaa
