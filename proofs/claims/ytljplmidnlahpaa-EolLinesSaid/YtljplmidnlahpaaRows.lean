/-
  No cell of these rows narrows 'for every input' (looked for: loops, veiled, ifaces, maps, wideKeys, modest, calm, conditions, laid).
  DERIVED. THE GIVEN ROWS OF THIS SEAT. 6 by the template 'for every input the law returns true; each argument reads behind the call as it read before'; 0 by the template 'total and deterministic' (their statements: YtljplmidnlahpaaTotals.lean).
  GIVEN WITH THE SEED: the statements are not yours to turn. If you find one false, say at which input.
  Laid BY PROGRAM, IN A SANDBOX (cutbox-rows.mjs): the forced cells as the released guide's own fill.sh prints them over the translation 2a07ed5f2f9ea31b… (all of the seat's roots in one cut). By AI agents, Wed Nov 11 2026. No macro, syntax, notation, axiom, sorry.
-/
import Derived.Test.YtljplmidnlahpaaChecked
import GoSem.Claim
import GoSem.ClaimJoined
import GoSem.ClaimMapViews
import Derived.JoinedTies
import Derived.KernelRfl
namespace Go.Proofs.Ytljplmidnlahpaa
/- THE CELL 'sum', in the pinned program and in every row, IS THE sha256 OF THE DUMP (.gsa) THAT YtljplmidnlahpaaProg.lean LOADS. Nothing in Lean hashes anything: it is a label: what it is worth is what the hold of that sum in a sandbox is worth. -/
noncomputable def Try.pinned : Pinned := { name := "ytljplmidnlahpaa", sum := "2a07ed5f2f9ea31b82c499f34e33afd9bd3237cc2513b12a52c14071688d71d7", checked := Try.checked }
namespace Rows
def none {H : Type} : Left H := { results := [], args := [] }

/-- 'narthexlaw12.StackTurns': WHATEVER THE INPUT: true; the input reads as it did. -/
def stackTurnsSpec : ChangeSpec := { name := "stackTurns", fn := fun _ => fun
  | [d1, d2] => { results := [.lit (.bool true)], args := [d1, d2] }
  | _ => none }
def stackTurnsRow : OpenClaim := { program := "ytljplmidnlahpaa", sum := "2a07ed5f2f9ea31b82c499f34e33afd9bd3237cc2513b12a52c14071688d71d7", func := "narthex/narthexlaw12.StackTurns", spec := "stackTurns", apart := false }
def StackTurnsSaid : Prop := stackTurnsRow.holds Try.pinned (OpenSpec.ofChange stackTurnsSpec)

/-- ITS FALSE NEIGHBOUR: 'it returns false'. Refute it at one input. -/
def stackTurnsWrong : ChangeSpec := { name := "stackTurns", fn := fun _ => fun
  | [d1, d2] => { results := [.lit (.bool false)], args := [d1, d2] }
  | _ => none }
def StackTurnsWrongFalsely : Prop := stackTurnsRow.holds Try.pinned (OpenSpec.ofChange stackTurnsWrong)

/-- 'narthexlaw12.StackPlays': WHATEVER THE INPUT: true; the input reads as it did. -/
def stackPlaysSpec : ChangeSpec := { name := "stackPlays", fn := fun _ => fun
  | [d1, d2] => { results := [.lit (.bool true)], args := [d1, d2] }
  | _ => none }
def stackPlaysRow : OpenClaim := { program := "ytljplmidnlahpaa", sum := "2a07ed5f2f9ea31b82c499f34e33afd9bd3237cc2513b12a52c14071688d71d7", func := "narthex/narthexlaw12.StackPlays", spec := "stackPlays", unfollowed := true, recurses := true, apart := false }
def StackPlaysSaid : Prop := stackPlaysRow.holds Try.pinned (OpenSpec.ofChange stackPlaysSpec)

/-- ITS FALSE NEIGHBOUR: 'it returns false'. Refute it at one input. -/
def stackPlaysWrong : ChangeSpec := { name := "stackPlays", fn := fun _ => fun
  | [d1, d2] => { results := [.lit (.bool false)], args := [d1, d2] }
  | _ => none }
def StackPlaysWrongFalsely : Prop := stackPlaysRow.holds Try.pinned (OpenSpec.ofChange stackPlaysWrong)

/-- 'narthexlaw12.StackNils': WHATEVER THE INPUT: true; the input reads as it did. -/
def stackNilsSpec : ChangeSpec := { name := "stackNils", fn := fun _ => fun
  | [d] => { results := [.lit (.bool true)], args := [d] }
  | _ => none }
def stackNilsRow : OpenClaim := { program := "ytljplmidnlahpaa", sum := "2a07ed5f2f9ea31b82c499f34e33afd9bd3237cc2513b12a52c14071688d71d7", func := "narthex/narthexlaw12.StackNils", spec := "stackNils", unfollowed := true, recurses := true, apart := false }
def StackNilsSaid : Prop := stackNilsRow.holds Try.pinned (OpenSpec.ofChange stackNilsSpec)

/-- ITS FALSE NEIGHBOUR: 'it returns false'. Refute it at one input. -/
def stackNilsWrong : ChangeSpec := { name := "stackNils", fn := fun _ => fun
  | [d] => { results := [.lit (.bool false)], args := [d] }
  | _ => none }
def StackNilsWrongFalsely : Prop := stackNilsRow.holds Try.pinned (OpenSpec.ofChange stackNilsWrong)

/-- 'narthexlaw04.EolWheres': WHATEVER THE INPUT: true; the input reads as it did. -/
def eolWheresSpec : ChangeSpec := { name := "eolWheres", fn := fun _ => fun
  | [d1, d2] => { results := [.lit (.bool true)], args := [d1, d2] }
  | _ => none }
def eolWheresRow : OpenClaim := { program := "ytljplmidnlahpaa", sum := "2a07ed5f2f9ea31b82c499f34e33afd9bd3237cc2513b12a52c14071688d71d7", func := "narthex/narthexlaw04.EolWheres", spec := "eolWheres", inPlace := ["internal/bytealg.Count", "internal/bytealg.IndexByte", "internal/bytealg.Index"], named := ["internal/bytealg.MaxLen"], apart := false }
def EolWheresSaid : Prop := eolWheresRow.holds Try.pinned (OpenSpec.ofChange eolWheresSpec)

/-- ITS FALSE NEIGHBOUR: 'it returns false'. Refute it at one input. -/
def eolWheresWrong : ChangeSpec := { name := "eolWheres", fn := fun _ => fun
  | [d1, d2] => { results := [.lit (.bool false)], args := [d1, d2] }
  | _ => none }
def EolWheresWrongFalsely : Prop := eolWheresRow.holds Try.pinned (OpenSpec.ofChange eolWheresWrong)

/-- 'narthexlaw04.EolNorms': WHATEVER THE INPUT: true; the input reads as it did. -/
def eolNormsSpec : ChangeSpec := { name := "eolNorms", fn := fun _ => fun
  | [d] => { results := [.lit (.bool true)], args := [d] }
  | _ => none }
def eolNormsRow : OpenClaim := { program := "ytljplmidnlahpaa", sum := "2a07ed5f2f9ea31b82c499f34e33afd9bd3237cc2513b12a52c14071688d71d7", func := "narthex/narthexlaw04.EolNorms", spec := "eolNorms", inPlace := ["internal/bytealg.Count", "internal/bytealg.IndexByte", "internal/bytealg.Index"], named := ["internal/bytealg.MaxLen"], apart := false }
def EolNormsSaid : Prop := eolNormsRow.holds Try.pinned (OpenSpec.ofChange eolNormsSpec)

/-- ITS FALSE NEIGHBOUR: 'it returns false'. Refute it at one input. -/
def eolNormsWrong : ChangeSpec := { name := "eolNorms", fn := fun _ => fun
  | [d] => { results := [.lit (.bool false)], args := [d] }
  | _ => none }
def EolNormsWrongFalsely : Prop := eolNormsRow.holds Try.pinned (OpenSpec.ofChange eolNormsWrong)

/-- 'narthexlaw04.EolLines': WHATEVER THE INPUT: true; the input reads as it did. -/
def eolLinesSpec : ChangeSpec := { name := "eolLines", fn := fun _ => fun
  | [d1, d2] => { results := [.lit (.bool true)], args := [d1, d2] }
  | _ => none }
def eolLinesRow : OpenClaim := { program := "ytljplmidnlahpaa", sum := "2a07ed5f2f9ea31b82c499f34e33afd9bd3237cc2513b12a52c14071688d71d7", func := "narthex/narthexlaw04.EolLines", spec := "eolLines", inPlace := ["internal/bytealg.Count", "internal/bytealg.IndexByte", "internal/bytealg.Index"], named := ["internal/bytealg.MaxLen"], apart := false }
def EolLinesSaid : Prop := eolLinesRow.holds Try.pinned (OpenSpec.ofChange eolLinesSpec)

/-- ITS FALSE NEIGHBOUR: 'it returns false'. Refute it at one input. -/
def eolLinesWrong : ChangeSpec := { name := "eolLines", fn := fun _ => fun
  | [d1, d2] => { results := [.lit (.bool false)], args := [d1, d2] }
  | _ => none }
def EolLinesWrongFalsely : Prop := eolLinesRow.holds Try.pinned (OpenSpec.ofChange eolLinesWrong)

/- THE SECOND FORM. 'bulk': how many values and letters a reading holds, each counted each time it is reached (what is shared counts as often as it is met; a slice's spare places count too). A statement '..UptoSaid' is the law's where the arguments, and the package variables that the reading takes, are together of bulk at most 1048576: NARROWER than '..Said'. Prove '..Said' where nothing that the law and all that it calls make is longer than what came in: it says more and counts as full. Else prove '..UptoSaid'. A law counts once. -/
mutual
def uptoBulk {H : Type} : DataW H → Nat
  | .lit (.string bytes) => bytes.length + 1
  | .lit _ => 1
  | .nil => 1
  | .ptr d => uptoBulk d + 1
  | .slice elems spare => uptoBulkAll elems + uptoBulkAll spare + 1
  | .agg parts => uptoBulkAll parts + 1
  | .iface _ d => uptoBulk d + 1
  | .map entries => uptoBulkEntries entries + 1
  | .held _ => 1
def uptoBulkAll {H : Type} : List (DataW H) → Nat
  | [] => 0
  | d :: r => uptoBulk d + uptoBulkAll r
def uptoBulkEntries {H : Type} : List (Lit × DataW H) → Nat
  | [] => 0
  | x :: r => uptoBulkEntry x + uptoBulkEntries r
def uptoBulkEntry {H : Type} : Lit × DataW H → Nat
  | (.string bytes, d) => bytes.length + uptoBulk d + 1
  | (_, d) => uptoBulk d + 1
 end
def uptoSmall : (H : Type) → List (DataW H) → Bool := fun _ ds => decide (uptoBulkAll ds ≤ 1048576)
def OpenSpec.upto (s : _root_.Go.ChangeSpec) : _root_.Go.OpenSpec := { _root_.Go.OpenSpec.ofChange s with cond := some uptoSmall }

/-- 'narthexlaw12.StackTurns', WHERE WHAT IT READS IS OF BULK AT MOST 1048576: true; the input reads as it did. -/
def stackTurnsUptoRow : OpenClaim := { program := "ytljplmidnlahpaa", sum := "2a07ed5f2f9ea31b82c499f34e33afd9bd3237cc2513b12a52c14071688d71d7", func := "narthex/narthexlaw12.StackTurns", spec := "stackTurns", apart := false, narrowed := true }
def StackTurnsUptoSaid : Prop := stackTurnsUptoRow.holds Try.pinned (OpenSpec.upto stackTurnsSpec)

/-- 'narthexlaw12.StackPlays', WHERE WHAT IT READS IS OF BULK AT MOST 1048576: true; the input reads as it did. -/
def stackPlaysUptoRow : OpenClaim := { program := "ytljplmidnlahpaa", sum := "2a07ed5f2f9ea31b82c499f34e33afd9bd3237cc2513b12a52c14071688d71d7", func := "narthex/narthexlaw12.StackPlays", spec := "stackPlays", unfollowed := true, recurses := true, apart := false, narrowed := true }
def StackPlaysUptoSaid : Prop := stackPlaysUptoRow.holds Try.pinned (OpenSpec.upto stackPlaysSpec)

/-- 'narthexlaw12.StackNils', WHERE WHAT IT READS IS OF BULK AT MOST 1048576: true; the input reads as it did. -/
def stackNilsUptoRow : OpenClaim := { program := "ytljplmidnlahpaa", sum := "2a07ed5f2f9ea31b82c499f34e33afd9bd3237cc2513b12a52c14071688d71d7", func := "narthex/narthexlaw12.StackNils", spec := "stackNils", unfollowed := true, recurses := true, apart := false, narrowed := true }
def StackNilsUptoSaid : Prop := stackNilsUptoRow.holds Try.pinned (OpenSpec.upto stackNilsSpec)

/-- 'narthexlaw04.EolWheres', WHERE WHAT IT READS IS OF BULK AT MOST 1048576: true; the input reads as it did. -/
def eolWheresUptoRow : OpenClaim := { program := "ytljplmidnlahpaa", sum := "2a07ed5f2f9ea31b82c499f34e33afd9bd3237cc2513b12a52c14071688d71d7", func := "narthex/narthexlaw04.EolWheres", spec := "eolWheres", inPlace := ["internal/bytealg.Count", "internal/bytealg.IndexByte", "internal/bytealg.Index"], named := ["internal/bytealg.MaxLen"], apart := false, narrowed := true }
def EolWheresUptoSaid : Prop := eolWheresUptoRow.holds Try.pinned (OpenSpec.upto eolWheresSpec)

/-- 'narthexlaw04.EolNorms', WHERE WHAT IT READS IS OF BULK AT MOST 1048576: true; the input reads as it did. -/
def eolNormsUptoRow : OpenClaim := { program := "ytljplmidnlahpaa", sum := "2a07ed5f2f9ea31b82c499f34e33afd9bd3237cc2513b12a52c14071688d71d7", func := "narthex/narthexlaw04.EolNorms", spec := "eolNorms", inPlace := ["internal/bytealg.Count", "internal/bytealg.IndexByte", "internal/bytealg.Index"], named := ["internal/bytealg.MaxLen"], apart := false, narrowed := true }
def EolNormsUptoSaid : Prop := eolNormsUptoRow.holds Try.pinned (OpenSpec.upto eolNormsSpec)

/-- 'narthexlaw04.EolLines', WHERE WHAT IT READS IS OF BULK AT MOST 1048576: true; the input reads as it did. -/
def eolLinesUptoRow : OpenClaim := { program := "ytljplmidnlahpaa", sum := "2a07ed5f2f9ea31b82c499f34e33afd9bd3237cc2513b12a52c14071688d71d7", func := "narthex/narthexlaw04.EolLines", spec := "eolLines", inPlace := ["internal/bytealg.Count", "internal/bytealg.IndexByte", "internal/bytealg.Index"], named := ["internal/bytealg.MaxLen"], apart := false, narrowed := true }
def EolLinesUptoSaid : Prop := eolLinesUptoRow.holds Try.pinned (OpenSpec.upto eolLinesSpec)

end Rows
end Go.Proofs.Ytljplmidnlahpaa
