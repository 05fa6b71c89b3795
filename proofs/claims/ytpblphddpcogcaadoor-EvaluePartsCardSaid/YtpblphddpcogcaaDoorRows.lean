/-
  NARROWER THAN 'FOR EVERY INPUT', by the rows' own cells (each row's printed sentence says how): TagAgain: laid · TagPuts: laid · EvaluePuts: laid · EvalueParts: laid · EvalueTexts: laid.
  DERIVED. THE GIVEN ROWS OF THIS SEAT. 5 by the template 'for every input the law returns true; each argument reads behind the call as it read before'; 0 by the template 'total and deterministic' (their statements: YtpblphddpcogcaaDoorTotals.lean).
  GIVEN WITH THE SEED: the statements are not yours to turn. If you find one false, say at which input.
  Laid BY PROGRAM, IN A SANDBOX (cutbox-rows.mjs): the forced cells as the released guide's own fill.sh prints them over the translation 6d45c82ac3b38703… (all of the seat's roots in one cut). By AI agents, Wed Nov 11 2026. No macro, syntax, notation, axiom, sorry.
-/
import Derived.Test.YtpblphddpcogcaaDoorChecked
import GoSem.Claim
import GoSem.ClaimJoined
import GoSem.ClaimMapViews
import Derived.JoinedTies
import Derived.KernelRfl
namespace Go.Proofs.YtpblphddpcogcaaDoor
/- THE CELL 'sum', in the pinned program and in every row, IS THE sha256 OF THE DUMP (.gsa) THAT YtpblphddpcogcaaDoorProg.lean LOADS. Nothing in Lean hashes anything: it is a label: what it is worth is what the hold of that sum in a sandbox is worth. -/
noncomputable def Tryd.pinned : Pinned := { name := "ytpblphddpcogcaadoor", sum := "6d45c82ac3b387031046be27573b1bc4367f5e8995569e58693ea6b9679ec683", checked := Tryd.checked }
namespace Rows
def none {H : Type} : Left H := { results := [], args := [] }

/- WHAT THE LISTED PACKAGE-LEVEL VARIABLES READ AS WHEN THE CALL BEGINS. Each datum BY PROGRAM (the guide's laid-datum.mjs) off the statement by which the dump's own 'gosem.cut.vars' lays the variable. In a bare row this is a premise. The card (YtpblphddpcogcaaDoorCards.lean) ties it to the program's text. -/
def laid_narthex_utf_forms {H : Type} : DataW H := .agg [.agg [.lit (.int .u8 0), .lit (.int .u8 0), .lit (.int .i64 0)], .agg [.lit (.int .u8 0), .lit (.int .u8 127), .lit (.int .i64 0)], .agg [.lit (.int .u8 192), .lit (.int .u8 31), .lit (.int .i64 128)], .agg [.lit (.int .u8 224), .lit (.int .u8 15), .lit (.int .i64 2048)], .agg [.lit (.int .u8 240), .lit (.int .u8 7), .lit (.int .i64 65536)]]
def laid_narthex_chars_documents {H : Type} : DataW H := .agg [.agg [.lit (.int .i64 9), .lit (.int .i64 10)], .agg [.lit (.int .i64 13), .lit (.int .i64 13)], .agg [.lit (.int .i64 32), .lit (.int .i64 55295)], .agg [.lit (.int .i64 57344), .lit (.int .i64 65533)], .agg [.lit (.int .i64 65536), .lit (.int .i64 1114111)]]
def laid_narthex_chars_starts {H : Type} : DataW H := .agg [.agg [.lit (.int .i64 58), .lit (.int .i64 58)], .agg [.lit (.int .i64 65), .lit (.int .i64 90)], .agg [.lit (.int .i64 95), .lit (.int .i64 95)], .agg [.lit (.int .i64 97), .lit (.int .i64 122)], .agg [.lit (.int .i64 192), .lit (.int .i64 214)], .agg [.lit (.int .i64 216), .lit (.int .i64 246)], .agg [.lit (.int .i64 248), .lit (.int .i64 767)], .agg [.lit (.int .i64 880), .lit (.int .i64 893)], .agg [.lit (.int .i64 895), .lit (.int .i64 8191)], .agg [.lit (.int .i64 8204), .lit (.int .i64 8205)], .agg [.lit (.int .i64 8304), .lit (.int .i64 8591)], .agg [.lit (.int .i64 11264), .lit (.int .i64 12271)], .agg [.lit (.int .i64 12289), .lit (.int .i64 55295)], .agg [.lit (.int .i64 63744), .lit (.int .i64 64975)], .agg [.lit (.int .i64 65008), .lit (.int .i64 65533)], .agg [.lit (.int .i64 65536), .lit (.int .i64 983039)]]
def laid_narthex_chars_more {H : Type} : DataW H := .agg [.agg [.lit (.int .i64 45), .lit (.int .i64 46)], .agg [.lit (.int .i64 48), .lit (.int .i64 57)], .agg [.lit (.int .i64 183), .lit (.int .i64 183)], .agg [.lit (.int .i64 768), .lit (.int .i64 879)], .agg [.lit (.int .i64 8255), .lit (.int .i64 8256)]]
def laid_math_bits_deBruijn32tab {H : Type} : DataW H := .agg [.lit (.int .u8 0), .lit (.int .u8 1), .lit (.int .u8 28), .lit (.int .u8 2), .lit (.int .u8 29), .lit (.int .u8 14), .lit (.int .u8 24), .lit (.int .u8 3), .lit (.int .u8 30), .lit (.int .u8 22), .lit (.int .u8 20), .lit (.int .u8 15), .lit (.int .u8 25), .lit (.int .u8 17), .lit (.int .u8 4), .lit (.int .u8 8), .lit (.int .u8 31), .lit (.int .u8 27), .lit (.int .u8 13), .lit (.int .u8 23), .lit (.int .u8 21), .lit (.int .u8 19), .lit (.int .u8 16), .lit (.int .u8 7), .lit (.int .u8 26), .lit (.int .u8 12), .lit (.int .u8 18), .lit (.int .u8 6), .lit (.int .u8 11), .lit (.int .u8 5), .lit (.int .u8 10), .lit (.int .u8 9)]
def laid_math_bits_deBruijn64tab {H : Type} : DataW H := .agg [.lit (.int .u8 0), .lit (.int .u8 1), .lit (.int .u8 56), .lit (.int .u8 2), .lit (.int .u8 57), .lit (.int .u8 49), .lit (.int .u8 28), .lit (.int .u8 3), .lit (.int .u8 61), .lit (.int .u8 58), .lit (.int .u8 42), .lit (.int .u8 50), .lit (.int .u8 38), .lit (.int .u8 29), .lit (.int .u8 17), .lit (.int .u8 4), .lit (.int .u8 62), .lit (.int .u8 47), .lit (.int .u8 59), .lit (.int .u8 36), .lit (.int .u8 45), .lit (.int .u8 43), .lit (.int .u8 51), .lit (.int .u8 22), .lit (.int .u8 53), .lit (.int .u8 39), .lit (.int .u8 33), .lit (.int .u8 30), .lit (.int .u8 24), .lit (.int .u8 18), .lit (.int .u8 12), .lit (.int .u8 5), .lit (.int .u8 63), .lit (.int .u8 55), .lit (.int .u8 48), .lit (.int .u8 27), .lit (.int .u8 60), .lit (.int .u8 41), .lit (.int .u8 37), .lit (.int .u8 16), .lit (.int .u8 46), .lit (.int .u8 35), .lit (.int .u8 44), .lit (.int .u8 21), .lit (.int .u8 52), .lit (.int .u8 32), .lit (.int .u8 23), .lit (.int .u8 11), .lit (.int .u8 54), .lit (.int .u8 26), .lit (.int .u8 40), .lit (.int .u8 15), .lit (.int .u8 34), .lit (.int .u8 20), .lit (.int .u8 31), .lit (.int .u8 10), .lit (.int .u8 25), .lit (.int .u8 14), .lit (.int .u8 19), .lit (.int .u8 9), .lit (.int .u8 13), .lit (.int .u8 8), .lit (.int .u8 7), .lit (.int .u8 6)]
def laid_internal_strconv_uint64pow10 {H : Type} : DataW H := .agg [.lit (.int .u64 1), .lit (.int .u64 10), .lit (.int .u64 100), .lit (.int .u64 1000), .lit (.int .u64 10000), .lit (.int .u64 100000), .lit (.int .u64 1000000), .lit (.int .u64 10000000), .lit (.int .u64 100000000), .lit (.int .u64 1000000000), .lit (.int .u64 10000000000), .lit (.int .u64 100000000000), .lit (.int .u64 1000000000000), .lit (.int .u64 10000000000000), .lit (.int .u64 100000000000000), .lit (.int .u64 1000000000000000), .lit (.int .u64 10000000000000000), .lit (.int .u64 100000000000000000), .lit (.int .u64 1000000000000000000), .lit (.int .u64 10000000000000000000)]

/-- 'narthexlaw10.TagAgain': WHATEVER THE INPUT: true; the input reads as it did. -/
def tagAgainSpec : ChangeSpec := { name := "tagAgain", fn := fun _ => fun
  | [d] => { results := [.lit (.bool true)], args := [d] }
  | _ => none }
def tagAgainRow : OpenClaim := { program := "ytpblphddpcogcaadoor", sum := "6d45c82ac3b387031046be27573b1bc4367f5e8995569e58693ea6b9679ec683", func := "narthex/narthexlaw10.TagAgain", spec := "tagAgain", inPlace := ["internal/bytealg.IndexByteString", "internal/bytealg.IndexByte", "internal/bytealg.IndexString", "internal/abi.NoEscape"], unfollowed := true, recurses := true, named := ["narthex/chars.starts", "narthex/chars.more", "narthex/utf.forms", "narthex/chars.documents", "internal/bytealg.MaxLen"], apart := false, laid := [("narthex/utf.forms", laid_narthex_utf_forms), ("narthex/chars.documents", laid_narthex_chars_documents), ("narthex/chars.starts", laid_narthex_chars_starts), ("narthex/chars.more", laid_narthex_chars_more)] }
def TagAgainSaid : Prop := tagAgainRow.holds Tryd.pinned (OpenSpec.ofChange tagAgainSpec)

/-- ITS FALSE NEIGHBOUR: 'it returns false'. Refute it at one input. -/
def tagAgainWrong : ChangeSpec := { name := "tagAgain", fn := fun _ => fun
  | [d] => { results := [.lit (.bool false)], args := [d] }
  | _ => none }
def TagAgainWrongFalsely : Prop := tagAgainRow.holds Tryd.pinned (OpenSpec.ofChange tagAgainWrong)

/-- 'narthexlaw10.TagPuts': WHATEVER THE INPUT: true; the input reads as it did. -/
def tagPutsSpec : ChangeSpec := { name := "tagPuts", fn := fun _ => fun
  | [d] => { results := [.lit (.bool true)], args := [d] }
  | _ => none }
def tagPutsRow : OpenClaim := { program := "ytpblphddpcogcaadoor", sum := "6d45c82ac3b387031046be27573b1bc4367f5e8995569e58693ea6b9679ec683", func := "narthex/narthexlaw10.TagPuts", spec := "tagPuts", inPlace := ["internal/bytealg.IndexByteString", "internal/bytealg.IndexByte", "internal/bytealg.IndexString", "internal/abi.NoEscape"], unfollowed := true, recurses := true, named := ["narthex/chars.starts", "narthex/chars.more", "narthex/utf.forms", "narthex/chars.documents", "internal/bytealg.MaxLen"], apart := false, laid := [("narthex/utf.forms", laid_narthex_utf_forms), ("narthex/chars.documents", laid_narthex_chars_documents), ("narthex/chars.starts", laid_narthex_chars_starts), ("narthex/chars.more", laid_narthex_chars_more)] }
def TagPutsSaid : Prop := tagPutsRow.holds Tryd.pinned (OpenSpec.ofChange tagPutsSpec)

/-- ITS FALSE NEIGHBOUR: 'it returns false'. Refute it at one input. -/
def tagPutsWrong : ChangeSpec := { name := "tagPuts", fn := fun _ => fun
  | [d] => { results := [.lit (.bool false)], args := [d] }
  | _ => none }
def TagPutsWrongFalsely : Prop := tagPutsRow.holds Tryd.pinned (OpenSpec.ofChange tagPutsWrong)

/-- 'narthexlaw14.EvaluePuts': WHATEVER THE INPUT: true; the input reads as it did. -/
def evaluePutsSpec : ChangeSpec := { name := "evaluePuts", fn := fun _ => fun
  | [d] => { results := [.lit (.bool true)], args := [d] }
  | _ => none }
def evaluePutsRow : OpenClaim := { program := "ytpblphddpcogcaadoor", sum := "6d45c82ac3b387031046be27573b1bc4367f5e8995569e58693ea6b9679ec683", func := "narthex/narthexlaw14.EvaluePuts", spec := "evaluePuts", inPlace := ["internal/bytealg.IndexByteString", "internal/bytealg.IndexString", "internal/bytealg.IndexByte", "internal/abi.NoEscape"], unfollowed := true, recurses := true, named := ["internal/bytealg.MaxLen", "narthex/chars.starts", "narthex/chars.more", "narthex/utf.forms", "narthex/chars.documents", "internal/strconv.uint64pow10", "math/bits.deBruijn32tab", "math/bits.deBruijn64tab"], apart := false, laid := [("math/bits.deBruijn32tab", laid_math_bits_deBruijn32tab), ("math/bits.deBruijn64tab", laid_math_bits_deBruijn64tab), ("internal/strconv.uint64pow10", laid_internal_strconv_uint64pow10), ("narthex/utf.forms", laid_narthex_utf_forms), ("narthex/chars.documents", laid_narthex_chars_documents), ("narthex/chars.starts", laid_narthex_chars_starts), ("narthex/chars.more", laid_narthex_chars_more)] }
def EvaluePutsSaid : Prop := evaluePutsRow.holds Tryd.pinned (OpenSpec.ofChange evaluePutsSpec)

/-- ITS FALSE NEIGHBOUR: 'it returns false'. Refute it at one input. -/
def evaluePutsWrong : ChangeSpec := { name := "evaluePuts", fn := fun _ => fun
  | [d] => { results := [.lit (.bool false)], args := [d] }
  | _ => none }
def EvaluePutsWrongFalsely : Prop := evaluePutsRow.holds Tryd.pinned (OpenSpec.ofChange evaluePutsWrong)

/-- 'narthexlaw14.EvalueParts': WHATEVER THE INPUT: true; the input reads as it did. -/
def evaluePartsSpec : ChangeSpec := { name := "evalueParts", fn := fun _ => fun
  | [d1, d2] => { results := [.lit (.bool true)], args := [d1, d2] }
  | _ => none }
def evaluePartsRow : OpenClaim := { program := "ytpblphddpcogcaadoor", sum := "6d45c82ac3b387031046be27573b1bc4367f5e8995569e58693ea6b9679ec683", func := "narthex/narthexlaw14.EvalueParts", spec := "evalueParts", inPlace := ["internal/bytealg.IndexByteString", "internal/bytealg.IndexString", "internal/bytealg.IndexByte", "internal/abi.NoEscape"], unfollowed := true, recurses := true, named := ["internal/bytealg.MaxLen", "narthex/chars.starts", "narthex/chars.more", "narthex/utf.forms", "narthex/chars.documents", "internal/strconv.uint64pow10", "math/bits.deBruijn32tab", "math/bits.deBruijn64tab"], apart := false, laid := [("math/bits.deBruijn32tab", laid_math_bits_deBruijn32tab), ("math/bits.deBruijn64tab", laid_math_bits_deBruijn64tab), ("internal/strconv.uint64pow10", laid_internal_strconv_uint64pow10), ("narthex/utf.forms", laid_narthex_utf_forms), ("narthex/chars.documents", laid_narthex_chars_documents), ("narthex/chars.starts", laid_narthex_chars_starts), ("narthex/chars.more", laid_narthex_chars_more)] }
def EvaluePartsSaid : Prop := evaluePartsRow.holds Tryd.pinned (OpenSpec.ofChange evaluePartsSpec)

/-- ITS FALSE NEIGHBOUR: 'it returns false'. Refute it at one input. -/
def evaluePartsWrong : ChangeSpec := { name := "evalueParts", fn := fun _ => fun
  | [d1, d2] => { results := [.lit (.bool false)], args := [d1, d2] }
  | _ => none }
def EvaluePartsWrongFalsely : Prop := evaluePartsRow.holds Tryd.pinned (OpenSpec.ofChange evaluePartsWrong)

/-- 'narthexlaw14.EvalueTexts': WHATEVER THE INPUT: true; the input reads as it did. -/
def evalueTextsSpec : ChangeSpec := { name := "evalueTexts", fn := fun _ => fun
  | [d] => { results := [.lit (.bool true)], args := [d] }
  | _ => none }
def evalueTextsRow : OpenClaim := { program := "ytpblphddpcogcaadoor", sum := "6d45c82ac3b387031046be27573b1bc4367f5e8995569e58693ea6b9679ec683", func := "narthex/narthexlaw14.EvalueTexts", spec := "evalueTexts", inPlace := ["internal/bytealg.IndexByteString", "internal/bytealg.IndexString", "internal/bytealg.IndexByte", "internal/abi.NoEscape"], unfollowed := true, recurses := true, named := ["internal/bytealg.MaxLen", "narthex/chars.starts", "narthex/chars.more", "narthex/utf.forms", "narthex/chars.documents", "internal/strconv.uint64pow10", "math/bits.deBruijn32tab", "math/bits.deBruijn64tab"], apart := false, laid := [("math/bits.deBruijn32tab", laid_math_bits_deBruijn32tab), ("math/bits.deBruijn64tab", laid_math_bits_deBruijn64tab), ("internal/strconv.uint64pow10", laid_internal_strconv_uint64pow10), ("narthex/utf.forms", laid_narthex_utf_forms), ("narthex/chars.documents", laid_narthex_chars_documents), ("narthex/chars.starts", laid_narthex_chars_starts), ("narthex/chars.more", laid_narthex_chars_more)] }
def EvalueTextsSaid : Prop := evalueTextsRow.holds Tryd.pinned (OpenSpec.ofChange evalueTextsSpec)

/-- ITS FALSE NEIGHBOUR: 'it returns false'. Refute it at one input. -/
def evalueTextsWrong : ChangeSpec := { name := "evalueTexts", fn := fun _ => fun
  | [d] => { results := [.lit (.bool false)], args := [d] }
  | _ => none }
def EvalueTextsWrongFalsely : Prop := evalueTextsRow.holds Tryd.pinned (OpenSpec.ofChange evalueTextsWrong)

/- THE SECOND FORM. 'bulk': how many values and letters a reading holds, each counted each time it is reached (what is shared counts as often as it is met; a slice's spare places count too). A statement '..UptoSaid' is the law's where the arguments, and the package variables that the reading takes, are together of bulk at most 1048576: NARROWER than '..Said'. Prove '..Said' where nothing that the law and all that it calls make is longer than what came in: it says more and counts as full. Else prove '..UptoSaid'. A law counts once. -/
mutual
def uptoBulk {H : Type} : DataW H → Nat
  | .lit (.string bytes) => bytes.length + 1
  | .lit _ => 1
  | .nil => 1
  | .ptr d => uptoBulk d + 1
  | .slice elems spare => uptoBulkAll elems + uptoBulkAll spare + 1
  | .agg parts => uptoBulkAll parts + 1
  | .iface _ d => uptoBulk d + 1
  | .map entries => uptoBulkEntries entries + 1
  | .held _ => 1
def uptoBulkAll {H : Type} : List (DataW H) → Nat
  | [] => 0
  | d :: r => uptoBulk d + uptoBulkAll r
def uptoBulkEntries {H : Type} : List (Lit × DataW H) → Nat
  | [] => 0
  | x :: r => uptoBulkEntry x + uptoBulkEntries r
def uptoBulkEntry {H : Type} : Lit × DataW H → Nat
  | (.string bytes, d) => bytes.length + uptoBulk d + 1
  | (_, d) => uptoBulk d + 1
 end
def uptoSmall : (H : Type) → List (DataW H) → Bool := fun _ ds => decide (uptoBulkAll ds ≤ 1048576)
def OpenSpec.upto (s : _root_.Go.ChangeSpec) : _root_.Go.OpenSpec := { _root_.Go.OpenSpec.ofChange s with cond := some uptoSmall }

/-- 'narthexlaw10.TagAgain', WHERE WHAT IT READS IS OF BULK AT MOST 1048576: true; the input reads as it did. -/
def tagAgainUptoRow : OpenClaim := { program := "ytpblphddpcogcaadoor", sum := "6d45c82ac3b387031046be27573b1bc4367f5e8995569e58693ea6b9679ec683", func := "narthex/narthexlaw10.TagAgain", spec := "tagAgain", inPlace := ["internal/bytealg.IndexByteString", "internal/bytealg.IndexByte", "internal/bytealg.IndexString", "internal/abi.NoEscape"], unfollowed := true, recurses := true, named := ["narthex/chars.starts", "narthex/chars.more", "narthex/utf.forms", "narthex/chars.documents", "internal/bytealg.MaxLen"], apart := false, laid := [("narthex/utf.forms", laid_narthex_utf_forms), ("narthex/chars.documents", laid_narthex_chars_documents), ("narthex/chars.starts", laid_narthex_chars_starts), ("narthex/chars.more", laid_narthex_chars_more)], narrowed := true }
def TagAgainUptoSaid : Prop := tagAgainUptoRow.holds Tryd.pinned (OpenSpec.upto tagAgainSpec)

/-- 'narthexlaw10.TagPuts', WHERE WHAT IT READS IS OF BULK AT MOST 1048576: true; the input reads as it did. -/
def tagPutsUptoRow : OpenClaim := { program := "ytpblphddpcogcaadoor", sum := "6d45c82ac3b387031046be27573b1bc4367f5e8995569e58693ea6b9679ec683", func := "narthex/narthexlaw10.TagPuts", spec := "tagPuts", inPlace := ["internal/bytealg.IndexByteString", "internal/bytealg.IndexByte", "internal/bytealg.IndexString", "internal/abi.NoEscape"], unfollowed := true, recurses := true, named := ["narthex/chars.starts", "narthex/chars.more", "narthex/utf.forms", "narthex/chars.documents", "internal/bytealg.MaxLen"], apart := false, laid := [("narthex/utf.forms", laid_narthex_utf_forms), ("narthex/chars.documents", laid_narthex_chars_documents), ("narthex/chars.starts", laid_narthex_chars_starts), ("narthex/chars.more", laid_narthex_chars_more)], narrowed := true }
def TagPutsUptoSaid : Prop := tagPutsUptoRow.holds Tryd.pinned (OpenSpec.upto tagPutsSpec)

/-- 'narthexlaw14.EvaluePuts', WHERE WHAT IT READS IS OF BULK AT MOST 1048576: true; the input reads as it did. -/
def evaluePutsUptoRow : OpenClaim := { program := "ytpblphddpcogcaadoor", sum := "6d45c82ac3b387031046be27573b1bc4367f5e8995569e58693ea6b9679ec683", func := "narthex/narthexlaw14.EvaluePuts", spec := "evaluePuts", inPlace := ["internal/bytealg.IndexByteString", "internal/bytealg.IndexString", "internal/bytealg.IndexByte", "internal/abi.NoEscape"], unfollowed := true, recurses := true, named := ["internal/bytealg.MaxLen", "narthex/chars.starts", "narthex/chars.more", "narthex/utf.forms", "narthex/chars.documents", "internal/strconv.uint64pow10", "math/bits.deBruijn32tab", "math/bits.deBruijn64tab"], apart := false, laid := [("math/bits.deBruijn32tab", laid_math_bits_deBruijn32tab), ("math/bits.deBruijn64tab", laid_math_bits_deBruijn64tab), ("internal/strconv.uint64pow10", laid_internal_strconv_uint64pow10), ("narthex/utf.forms", laid_narthex_utf_forms), ("narthex/chars.documents", laid_narthex_chars_documents), ("narthex/chars.starts", laid_narthex_chars_starts), ("narthex/chars.more", laid_narthex_chars_more)], narrowed := true }
def EvaluePutsUptoSaid : Prop := evaluePutsUptoRow.holds Tryd.pinned (OpenSpec.upto evaluePutsSpec)

/-- 'narthexlaw14.EvalueParts', WHERE WHAT IT READS IS OF BULK AT MOST 1048576: true; the input reads as it did. -/
def evaluePartsUptoRow : OpenClaim := { program := "ytpblphddpcogcaadoor", sum := "6d45c82ac3b387031046be27573b1bc4367f5e8995569e58693ea6b9679ec683", func := "narthex/narthexlaw14.EvalueParts", spec := "evalueParts", inPlace := ["internal/bytealg.IndexByteString", "internal/bytealg.IndexString", "internal/bytealg.IndexByte", "internal/abi.NoEscape"], unfollowed := true, recurses := true, named := ["internal/bytealg.MaxLen", "narthex/chars.starts", "narthex/chars.more", "narthex/utf.forms", "narthex/chars.documents", "internal/strconv.uint64pow10", "math/bits.deBruijn32tab", "math/bits.deBruijn64tab"], apart := false, laid := [("math/bits.deBruijn32tab", laid_math_bits_deBruijn32tab), ("math/bits.deBruijn64tab", laid_math_bits_deBruijn64tab), ("internal/strconv.uint64pow10", laid_internal_strconv_uint64pow10), ("narthex/utf.forms", laid_narthex_utf_forms), ("narthex/chars.documents", laid_narthex_chars_documents), ("narthex/chars.starts", laid_narthex_chars_starts), ("narthex/chars.more", laid_narthex_chars_more)], narrowed := true }
def EvaluePartsUptoSaid : Prop := evaluePartsUptoRow.holds Tryd.pinned (OpenSpec.upto evaluePartsSpec)

/-- 'narthexlaw14.EvalueTexts', WHERE WHAT IT READS IS OF BULK AT MOST 1048576: true; the input reads as it did. -/
def evalueTextsUptoRow : OpenClaim := { program := "ytpblphddpcogcaadoor", sum := "6d45c82ac3b387031046be27573b1bc4367f5e8995569e58693ea6b9679ec683", func := "narthex/narthexlaw14.EvalueTexts", spec := "evalueTexts", inPlace := ["internal/bytealg.IndexByteString", "internal/bytealg.IndexString", "internal/bytealg.IndexByte", "internal/abi.NoEscape"], unfollowed := true, recurses := true, named := ["internal/bytealg.MaxLen", "narthex/chars.starts", "narthex/chars.more", "narthex/utf.forms", "narthex/chars.documents", "internal/strconv.uint64pow10", "math/bits.deBruijn32tab", "math/bits.deBruijn64tab"], apart := false, laid := [("math/bits.deBruijn32tab", laid_math_bits_deBruijn32tab), ("math/bits.deBruijn64tab", laid_math_bits_deBruijn64tab), ("internal/strconv.uint64pow10", laid_internal_strconv_uint64pow10), ("narthex/utf.forms", laid_narthex_utf_forms), ("narthex/chars.documents", laid_narthex_chars_documents), ("narthex/chars.starts", laid_narthex_chars_starts), ("narthex/chars.more", laid_narthex_chars_more)], narrowed := true }
def EvalueTextsUptoSaid : Prop := evalueTextsUptoRow.holds Tryd.pinned (OpenSpec.upto evalueTextsSpec)

end Rows
end Go.Proofs.YtpblphddpcogcaaDoor
