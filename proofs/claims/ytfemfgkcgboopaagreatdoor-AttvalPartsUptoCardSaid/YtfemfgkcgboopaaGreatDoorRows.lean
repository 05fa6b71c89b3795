/-
  NARROWER THAN 'FOR EVERY INPUT', by the rows' own cells (each row's printed sentence says how): AttvalMakes: laid · AttvalParts: laid · AttvalWrites: laid.
  DERIVED. THE GIVEN ROWS OF THIS SEAT. 3 by the template 'for every input the law returns true; each argument reads behind the call as it read before'; 0 by the template 'total and deterministic' (their statements: YtfemfgkcgboopaaGreatDoorTotals.lean).
  GIVEN WITH THE SEED: the statements are not yours to turn. If you find one false, say at which input.
  Laid BY PROGRAM, IN A SANDBOX (cutbox-rows.mjs): the forced cells as the released guide's own fill.sh prints them over the translation 8a8c7ef4b710ad5d… (all of the seat's roots in one cut). By AI agents, Wed Nov 11 2026. No macro, syntax, notation, axiom, sorry.
-/
import Derived.Test.YtfemfgkcgboopaaGreatDoorChecked
import GoSem.PinnedTables
import GoSem.Claim
import GoSem.ClaimJoined
import GoSem.ClaimMapViews
import Derived.JoinedTies
import Derived.KernelRfl
namespace Go.Proofs.YtfemfgkcgboopaaGreatDoor
/- THE CELL 'sum', in the pinned program and in every row, IS THE sha256 OF THE DUMP (.gsa) THAT YtfemfgkcgboopaaGreatDoorProg.lean LOADS. Nothing in Lean hashes anything: it is a label: what it is worth is what the hold of that sum in a sandbox is worth. -/
noncomputable def Tryz.pinned : Pinned := { name := "ytfemfgkcgboopaagreatdoor", sum := "8a8c7ef4b710ad5d6ad4ef4eedf3d254f17b9d0f8ba35ff3d9327dfc0391bd76", checked := Tryz.checked }
namespace Rows
def none {H : Type} : Left H := { results := [], args := [] }

/- WHAT THE LISTED PACKAGE-LEVEL VARIABLES READ AS WHEN THE CALL BEGINS. Each datum BY PROGRAM (the guide's laid-datum.mjs) off the statement by which the dump's own 'gosem.cut.vars' lays the variable. In a bare row this is a premise. The card (YtfemfgkcgboopaaGreatDoorCards.lean) ties it to the program's text. -/
def laid_unicode_utf8_acceptRanges {H : Type} : DataW H := .agg [.agg [.lit (.int .u8 128), .lit (.int .u8 191)], .agg [.lit (.int .u8 160), .lit (.int .u8 191)], .agg [.lit (.int .u8 128), .lit (.int .u8 159)], .agg [.lit (.int .u8 144), .lit (.int .u8 191)], .agg [.lit (.int .u8 128), .lit (.int .u8 143)], .agg [.lit (.int .u8 0), .lit (.int .u8 0)], .agg [.lit (.int .u8 0), .lit (.int .u8 0)], .agg [.lit (.int .u8 0), .lit (.int .u8 0)], .agg [.lit (.int .u8 0), .lit (.int .u8 0)], .agg [.lit (.int .u8 0), .lit (.int .u8 0)], .agg [.lit (.int .u8 0), .lit (.int .u8 0)], .agg [.lit (.int .u8 0), .lit (.int .u8 0)], .agg [.lit (.int .u8 0), .lit (.int .u8 0)], .agg [.lit (.int .u8 0), .lit (.int .u8 0)], .agg [.lit (.int .u8 0), .lit (.int .u8 0)], .agg [.lit (.int .u8 0), .lit (.int .u8 0)]]
def laid_narthex_utf_forms {H : Type} : DataW H := .agg [.agg [.lit (.int .u8 0), .lit (.int .u8 0), .lit (.int .i64 0)], .agg [.lit (.int .u8 0), .lit (.int .u8 127), .lit (.int .i64 0)], .agg [.lit (.int .u8 192), .lit (.int .u8 31), .lit (.int .i64 128)], .agg [.lit (.int .u8 224), .lit (.int .u8 15), .lit (.int .i64 2048)], .agg [.lit (.int .u8 240), .lit (.int .u8 7), .lit (.int .i64 65536)]]
def laid_narthex_chars_documents {H : Type} : DataW H := .agg [.agg [.lit (.int .i64 9), .lit (.int .i64 10)], .agg [.lit (.int .i64 13), .lit (.int .i64 13)], .agg [.lit (.int .i64 32), .lit (.int .i64 55295)], .agg [.lit (.int .i64 57344), .lit (.int .i64 65533)], .agg [.lit (.int .i64 65536), .lit (.int .i64 1114111)]]
def laid_narthex_chars_starts {H : Type} : DataW H := .agg [.agg [.lit (.int .i64 58), .lit (.int .i64 58)], .agg [.lit (.int .i64 65), .lit (.int .i64 90)], .agg [.lit (.int .i64 95), .lit (.int .i64 95)], .agg [.lit (.int .i64 97), .lit (.int .i64 122)], .agg [.lit (.int .i64 192), .lit (.int .i64 214)], .agg [.lit (.int .i64 216), .lit (.int .i64 246)], .agg [.lit (.int .i64 248), .lit (.int .i64 767)], .agg [.lit (.int .i64 880), .lit (.int .i64 893)], .agg [.lit (.int .i64 895), .lit (.int .i64 8191)], .agg [.lit (.int .i64 8204), .lit (.int .i64 8205)], .agg [.lit (.int .i64 8304), .lit (.int .i64 8591)], .agg [.lit (.int .i64 11264), .lit (.int .i64 12271)], .agg [.lit (.int .i64 12289), .lit (.int .i64 55295)], .agg [.lit (.int .i64 63744), .lit (.int .i64 64975)], .agg [.lit (.int .i64 65008), .lit (.int .i64 65533)], .agg [.lit (.int .i64 65536), .lit (.int .i64 983039)]]
def laid_narthex_chars_more {H : Type} : DataW H := .agg [.agg [.lit (.int .i64 45), .lit (.int .i64 46)], .agg [.lit (.int .i64 48), .lit (.int .i64 57)], .agg [.lit (.int .i64 183), .lit (.int .i64 183)], .agg [.lit (.int .i64 768), .lit (.int .i64 879)], .agg [.lit (.int .i64 8255), .lit (.int .i64 8256)]]
def laid_narthex_cref_known {H : Type} : DataW H := .agg [.agg [.lit (.string [108, 116]), .lit (.int .i64 60)], .agg [.lit (.string [103, 116]), .lit (.int .i64 62)], .agg [.lit (.string [97, 109, 112]), .lit (.int .i64 38)], .agg [.lit (.string [97, 112, 111, 115]), .lit (.int .i64 39)], .agg [.lit (.string [113, 117, 111, 116]), .lit (.int .i64 34)]]
/-- One of Go's own tables, pinned by name: the form's constant. -/
def laid_unicode_utf8_first : DataW Unit := Go.Pinned.utf8First
def laid_math_bits_deBruijn32tab {H : Type} : DataW H := .agg [.lit (.int .u8 0), .lit (.int .u8 1), .lit (.int .u8 28), .lit (.int .u8 2), .lit (.int .u8 29), .lit (.int .u8 14), .lit (.int .u8 24), .lit (.int .u8 3), .lit (.int .u8 30), .lit (.int .u8 22), .lit (.int .u8 20), .lit (.int .u8 15), .lit (.int .u8 25), .lit (.int .u8 17), .lit (.int .u8 4), .lit (.int .u8 8), .lit (.int .u8 31), .lit (.int .u8 27), .lit (.int .u8 13), .lit (.int .u8 23), .lit (.int .u8 21), .lit (.int .u8 19), .lit (.int .u8 16), .lit (.int .u8 7), .lit (.int .u8 26), .lit (.int .u8 12), .lit (.int .u8 18), .lit (.int .u8 6), .lit (.int .u8 11), .lit (.int .u8 5), .lit (.int .u8 10), .lit (.int .u8 9)]
def laid_math_bits_deBruijn64tab {H : Type} : DataW H := .agg [.lit (.int .u8 0), .lit (.int .u8 1), .lit (.int .u8 56), .lit (.int .u8 2), .lit (.int .u8 57), .lit (.int .u8 49), .lit (.int .u8 28), .lit (.int .u8 3), .lit (.int .u8 61), .lit (.int .u8 58), .lit (.int .u8 42), .lit (.int .u8 50), .lit (.int .u8 38), .lit (.int .u8 29), .lit (.int .u8 17), .lit (.int .u8 4), .lit (.int .u8 62), .lit (.int .u8 47), .lit (.int .u8 59), .lit (.int .u8 36), .lit (.int .u8 45), .lit (.int .u8 43), .lit (.int .u8 51), .lit (.int .u8 22), .lit (.int .u8 53), .lit (.int .u8 39), .lit (.int .u8 33), .lit (.int .u8 30), .lit (.int .u8 24), .lit (.int .u8 18), .lit (.int .u8 12), .lit (.int .u8 5), .lit (.int .u8 63), .lit (.int .u8 55), .lit (.int .u8 48), .lit (.int .u8 27), .lit (.int .u8 60), .lit (.int .u8 41), .lit (.int .u8 37), .lit (.int .u8 16), .lit (.int .u8 46), .lit (.int .u8 35), .lit (.int .u8 44), .lit (.int .u8 21), .lit (.int .u8 52), .lit (.int .u8 32), .lit (.int .u8 23), .lit (.int .u8 11), .lit (.int .u8 54), .lit (.int .u8 26), .lit (.int .u8 40), .lit (.int .u8 15), .lit (.int .u8 34), .lit (.int .u8 20), .lit (.int .u8 31), .lit (.int .u8 10), .lit (.int .u8 25), .lit (.int .u8 14), .lit (.int .u8 19), .lit (.int .u8 9), .lit (.int .u8 13), .lit (.int .u8 8), .lit (.int .u8 7), .lit (.int .u8 6)]
def laid_internal_strconv_uint64pow10 {H : Type} : DataW H := .agg [.lit (.int .u64 1), .lit (.int .u64 10), .lit (.int .u64 100), .lit (.int .u64 1000), .lit (.int .u64 10000), .lit (.int .u64 100000), .lit (.int .u64 1000000), .lit (.int .u64 10000000), .lit (.int .u64 100000000), .lit (.int .u64 1000000000), .lit (.int .u64 10000000000), .lit (.int .u64 100000000000), .lit (.int .u64 1000000000000), .lit (.int .u64 10000000000000), .lit (.int .u64 100000000000000), .lit (.int .u64 1000000000000000), .lit (.int .u64 10000000000000000), .lit (.int .u64 100000000000000000), .lit (.int .u64 1000000000000000000), .lit (.int .u64 10000000000000000000)]

/-- 'narthexlaw27.AttvalMakes': WHATEVER THE INPUT: true; the input reads as it did. -/
def attvalMakesSpec : ChangeSpec := { name := "attvalMakes", fn := fun _ => fun
  | [d1, d2] => { results := [.lit (.bool true)], args := [d1, d2] }
  | _ => none }
def attvalMakesRow : OpenClaim := { program := "ytfemfgkcgboopaagreatdoor", sum := "8a8c7ef4b710ad5d6ad4ef4eedf3d254f17b9d0f8ba35ff3d9327dfc0391bd76", func := "narthex/narthexlaw27.AttvalMakes", spec := "attvalMakes", inPlace := ["internal/bytealg.IndexByte", "internal/abi.NoEscape"], unfollowed := true, recurses := true, named := ["narthex/chars.starts", "narthex/chars.more", "narthex/utf.forms", "narthex/chars.documents", "narthex/cref.known", "unicode/utf8.first", "unicode/utf8.acceptRanges"], apart := false, laid := [("unicode/utf8.acceptRanges", laid_unicode_utf8_acceptRanges), ("narthex/utf.forms", laid_narthex_utf_forms), ("narthex/chars.documents", laid_narthex_chars_documents), ("narthex/chars.starts", laid_narthex_chars_starts), ("narthex/chars.more", laid_narthex_chars_more), ("narthex/cref.known", laid_narthex_cref_known), ("unicode/utf8.first", laid_unicode_utf8_first)] }
def AttvalMakesSaid : Prop := attvalMakesRow.holds Tryz.pinned (OpenSpec.ofChange attvalMakesSpec)

/-- ITS FALSE NEIGHBOUR: 'it returns false'. Refute it at one input. -/
def attvalMakesWrong : ChangeSpec := { name := "attvalMakes", fn := fun _ => fun
  | [d1, d2] => { results := [.lit (.bool false)], args := [d1, d2] }
  | _ => none }
def AttvalMakesWrongFalsely : Prop := attvalMakesRow.holds Tryz.pinned (OpenSpec.ofChange attvalMakesWrong)

/-- 'narthexlaw27.AttvalParts': WHATEVER THE INPUT: true; the input reads as it did. -/
def attvalPartsSpec : ChangeSpec := { name := "attvalParts", fn := fun _ => fun
  | [d1, d2, d3] => { results := [.lit (.bool true)], args := [d1, d2, d3] }
  | _ => none }
def attvalPartsRow : OpenClaim := { program := "ytfemfgkcgboopaagreatdoor", sum := "8a8c7ef4b710ad5d6ad4ef4eedf3d254f17b9d0f8ba35ff3d9327dfc0391bd76", func := "narthex/narthexlaw27.AttvalParts", spec := "attvalParts", inPlace := ["internal/bytealg.IndexByte", "internal/abi.NoEscape"], unfollowed := true, recurses := true, named := ["narthex/chars.starts", "narthex/chars.more", "narthex/utf.forms", "narthex/chars.documents", "narthex/cref.known", "unicode/utf8.first", "unicode/utf8.acceptRanges"], apart := false, laid := [("unicode/utf8.acceptRanges", laid_unicode_utf8_acceptRanges), ("narthex/utf.forms", laid_narthex_utf_forms), ("narthex/chars.documents", laid_narthex_chars_documents), ("narthex/chars.starts", laid_narthex_chars_starts), ("narthex/chars.more", laid_narthex_chars_more), ("narthex/cref.known", laid_narthex_cref_known), ("unicode/utf8.first", laid_unicode_utf8_first)] }
def AttvalPartsSaid : Prop := attvalPartsRow.holds Tryz.pinned (OpenSpec.ofChange attvalPartsSpec)

/-- ITS FALSE NEIGHBOUR: 'it returns false'. Refute it at one input. -/
def attvalPartsWrong : ChangeSpec := { name := "attvalParts", fn := fun _ => fun
  | [d1, d2, d3] => { results := [.lit (.bool false)], args := [d1, d2, d3] }
  | _ => none }
def AttvalPartsWrongFalsely : Prop := attvalPartsRow.holds Tryz.pinned (OpenSpec.ofChange attvalPartsWrong)

/-- 'narthexlaw27.AttvalWrites': WHATEVER THE INPUT: true; the input reads as it did. -/
def attvalWritesSpec : ChangeSpec := { name := "attvalWrites", fn := fun _ => fun
  | [d1, d2, d3] => { results := [.lit (.bool true)], args := [d1, d2, d3] }
  | _ => none }
def attvalWritesRow : OpenClaim := { program := "ytfemfgkcgboopaagreatdoor", sum := "8a8c7ef4b710ad5d6ad4ef4eedf3d254f17b9d0f8ba35ff3d9327dfc0391bd76", func := "narthex/narthexlaw27.AttvalWrites", spec := "attvalWrites", inPlace := ["internal/bytealg.IndexByte", "internal/abi.NoEscape"], unfollowed := true, recurses := true, named := ["narthex/chars.starts", "narthex/chars.more", "narthex/utf.forms", "narthex/chars.documents", "narthex/cref.known", "unicode/utf8.first", "unicode/utf8.acceptRanges", "internal/strconv.uint64pow10", "math/bits.deBruijn32tab", "math/bits.deBruijn64tab"], apart := false, laid := [("math/bits.deBruijn32tab", laid_math_bits_deBruijn32tab), ("math/bits.deBruijn64tab", laid_math_bits_deBruijn64tab), ("internal/strconv.uint64pow10", laid_internal_strconv_uint64pow10), ("unicode/utf8.acceptRanges", laid_unicode_utf8_acceptRanges), ("narthex/utf.forms", laid_narthex_utf_forms), ("narthex/chars.documents", laid_narthex_chars_documents), ("narthex/chars.starts", laid_narthex_chars_starts), ("narthex/chars.more", laid_narthex_chars_more), ("narthex/cref.known", laid_narthex_cref_known), ("unicode/utf8.first", laid_unicode_utf8_first)] }
def AttvalWritesSaid : Prop := attvalWritesRow.holds Tryz.pinned (OpenSpec.ofChange attvalWritesSpec)

/-- ITS FALSE NEIGHBOUR: 'it returns false'. Refute it at one input. -/
def attvalWritesWrong : ChangeSpec := { name := "attvalWrites", fn := fun _ => fun
  | [d1, d2, d3] => { results := [.lit (.bool false)], args := [d1, d2, d3] }
  | _ => none }
def AttvalWritesWrongFalsely : Prop := attvalWritesRow.holds Tryz.pinned (OpenSpec.ofChange attvalWritesWrong)

/- THE SECOND FORM. 'bulk': how many values and letters a reading holds, each counted each time it is reached (what is shared counts as often as it is met; a slice's spare places count too). A statement '..UptoSaid' is the law's where the arguments, and the package variables that the reading takes, are together of bulk at most 1048576: NARROWER than '..Said'. Prove '..Said' where nothing that the law and all that it calls make is longer than what came in: it says more and counts as full. Else prove '..UptoSaid'. A law counts once. -/
mutual
def uptoBulk {H : Type} : DataW H → Nat
  | .lit (.string bytes) => bytes.length + 1
  | .lit _ => 1
  | .nil => 1
  | .ptr d => uptoBulk d + 1
  | .slice elems spare => uptoBulkAll elems + uptoBulkAll spare + 1
  | .agg parts => uptoBulkAll parts + 1
  | .iface _ d => uptoBulk d + 1
  | .map entries => uptoBulkEntries entries + 1
  | .held _ => 1
def uptoBulkAll {H : Type} : List (DataW H) → Nat
  | [] => 0
  | d :: r => uptoBulk d + uptoBulkAll r
def uptoBulkEntries {H : Type} : List (Lit × DataW H) → Nat
  | [] => 0
  | x :: r => uptoBulkEntry x + uptoBulkEntries r
def uptoBulkEntry {H : Type} : Lit × DataW H → Nat
  | (.string bytes, d) => bytes.length + uptoBulk d + 1
  | (_, d) => uptoBulk d + 1
 end
def uptoSmall : (H : Type) → List (DataW H) → Bool := fun _ ds => decide (uptoBulkAll ds ≤ 1048576)
def OpenSpec.upto (s : _root_.Go.ChangeSpec) : _root_.Go.OpenSpec := { _root_.Go.OpenSpec.ofChange s with cond := some uptoSmall }

/-- 'narthexlaw27.AttvalMakes', WHERE WHAT IT READS IS OF BULK AT MOST 1048576: true; the input reads as it did. -/
def attvalMakesUptoRow : OpenClaim := { program := "ytfemfgkcgboopaagreatdoor", sum := "8a8c7ef4b710ad5d6ad4ef4eedf3d254f17b9d0f8ba35ff3d9327dfc0391bd76", func := "narthex/narthexlaw27.AttvalMakes", spec := "attvalMakes", inPlace := ["internal/bytealg.IndexByte", "internal/abi.NoEscape"], unfollowed := true, recurses := true, named := ["narthex/chars.starts", "narthex/chars.more", "narthex/utf.forms", "narthex/chars.documents", "narthex/cref.known", "unicode/utf8.first", "unicode/utf8.acceptRanges"], apart := false, laid := [("unicode/utf8.acceptRanges", laid_unicode_utf8_acceptRanges), ("narthex/utf.forms", laid_narthex_utf_forms), ("narthex/chars.documents", laid_narthex_chars_documents), ("narthex/chars.starts", laid_narthex_chars_starts), ("narthex/chars.more", laid_narthex_chars_more), ("narthex/cref.known", laid_narthex_cref_known), ("unicode/utf8.first", laid_unicode_utf8_first)], narrowed := true }
def AttvalMakesUptoSaid : Prop := attvalMakesUptoRow.holds Tryz.pinned (OpenSpec.upto attvalMakesSpec)

/-- 'narthexlaw27.AttvalParts', WHERE WHAT IT READS IS OF BULK AT MOST 1048576: true; the input reads as it did. -/
def attvalPartsUptoRow : OpenClaim := { program := "ytfemfgkcgboopaagreatdoor", sum := "8a8c7ef4b710ad5d6ad4ef4eedf3d254f17b9d0f8ba35ff3d9327dfc0391bd76", func := "narthex/narthexlaw27.AttvalParts", spec := "attvalParts", inPlace := ["internal/bytealg.IndexByte", "internal/abi.NoEscape"], unfollowed := true, recurses := true, named := ["narthex/chars.starts", "narthex/chars.more", "narthex/utf.forms", "narthex/chars.documents", "narthex/cref.known", "unicode/utf8.first", "unicode/utf8.acceptRanges"], apart := false, laid := [("unicode/utf8.acceptRanges", laid_unicode_utf8_acceptRanges), ("narthex/utf.forms", laid_narthex_utf_forms), ("narthex/chars.documents", laid_narthex_chars_documents), ("narthex/chars.starts", laid_narthex_chars_starts), ("narthex/chars.more", laid_narthex_chars_more), ("narthex/cref.known", laid_narthex_cref_known), ("unicode/utf8.first", laid_unicode_utf8_first)], narrowed := true }
def AttvalPartsUptoSaid : Prop := attvalPartsUptoRow.holds Tryz.pinned (OpenSpec.upto attvalPartsSpec)

/-- 'narthexlaw27.AttvalWrites', WHERE WHAT IT READS IS OF BULK AT MOST 1048576: true; the input reads as it did. -/
def attvalWritesUptoRow : OpenClaim := { program := "ytfemfgkcgboopaagreatdoor", sum := "8a8c7ef4b710ad5d6ad4ef4eedf3d254f17b9d0f8ba35ff3d9327dfc0391bd76", func := "narthex/narthexlaw27.AttvalWrites", spec := "attvalWrites", inPlace := ["internal/bytealg.IndexByte", "internal/abi.NoEscape"], unfollowed := true, recurses := true, named := ["narthex/chars.starts", "narthex/chars.more", "narthex/utf.forms", "narthex/chars.documents", "narthex/cref.known", "unicode/utf8.first", "unicode/utf8.acceptRanges", "internal/strconv.uint64pow10", "math/bits.deBruijn32tab", "math/bits.deBruijn64tab"], apart := false, laid := [("math/bits.deBruijn32tab", laid_math_bits_deBruijn32tab), ("math/bits.deBruijn64tab", laid_math_bits_deBruijn64tab), ("internal/strconv.uint64pow10", laid_internal_strconv_uint64pow10), ("unicode/utf8.acceptRanges", laid_unicode_utf8_acceptRanges), ("narthex/utf.forms", laid_narthex_utf_forms), ("narthex/chars.documents", laid_narthex_chars_documents), ("narthex/chars.starts", laid_narthex_chars_starts), ("narthex/chars.more", laid_narthex_chars_more), ("narthex/cref.known", laid_narthex_cref_known), ("unicode/utf8.first", laid_unicode_utf8_first)], narrowed := true }
def AttvalWritesUptoSaid : Prop := attvalWritesUptoRow.holds Tryz.pinned (OpenSpec.upto attvalWritesSpec)

end Rows
end Go.Proofs.YtfemfgkcgboopaaGreatDoor
