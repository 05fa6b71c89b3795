/-
  DERIVED. GIVEN WITH THE SEED: THE PROGRAM's TIES (one call each: nine closed facts by the kernel) AND EACH ROW's TIE, after the 31st guide's Derived/Test/Toyas{Tie, Card}.lean. No idea stands in it: it is a product of the set-up. Laid BY PROGRAM, IN A SANDBOX (cutbox-door.mjs). By AI agents, Wed Nov 11 2026. No macro, syntax, notation, axiom, sorry.
-/
import Derived.Test.YtljplmidnlahpaaDoorRows
import Derived.LaidByTextLater
import Derived.SevenTiedAt
import Derived.LaidSub
import Derived.LaidOnce
namespace Go.Proofs.YtljplmidnlahpaaDoor
open Go
set_option maxRecDepth 100000
theorem seatTie1 : Tryd.prog.laidByTextLater [("math/bits.deBruijn32tab", Rows.laid_math_bits_deBruijn32tab), ("math/bits.deBruijn64tab", Rows.laid_math_bits_deBruijn64tab), ("internal/strconv.uint64pow10", Rows.laid_internal_strconv_uint64pow10), ("narthex/utf.forms", Rows.laid_narthex_utf_forms), ("narthex/chars.documents", Rows.laid_narthex_chars_documents), ("narthex/chars.starts", Rows.laid_narthex_chars_starts), ("narthex/chars.more", Rows.laid_narthex_chars_more), ("narthex/cref.known", Rows.laid_narthex_cref_known)] [.data, .data, .data, .data, .widerDeep, .widerDeep, .widerDeep, .data] true :=
  Program.laidByTextLater_by_one 85 8 65 (by kernel_rfl) (by kernel_rfl) (by kernel_rfl) (by kernel_rfl) (by kernel_rfl) (by kernel_rfl) (fun _ _ => by kernel_rfl)
theorem noOwnUnsafe : Tryd.pinned.checked.prog.headLifts.contains "ownunsafe" = false := by kernel_rfl
theorem tie : Tryd.prog.laidByTextLater [("narthex/utf.forms", Rows.laid_narthex_utf_forms), ("narthex/chars.documents", Rows.laid_narthex_chars_documents), ("narthex/chars.starts", Rows.laid_narthex_chars_starts), ("narthex/chars.more", Rows.laid_narthex_chars_more)] [.data, .widerDeep, .widerDeep, .widerDeep] true :=
  Program.laidByTextLater.sub seatTie1 ["narthex/utf.forms", "narthex/chars.documents", "narthex/chars.starts", "narthex/chars.more"] (by kernel_rfl) (by kernel_rfl)
theorem litRefs_row_tie : Rows.litRefsRow.laidByTextAt .later Tryd.pinned [.data, .widerDeep, .widerDeep, .widerDeep] true :=
  OpenClaim.laidByTextAt_later rfl rfl tie noOwnUnsafe
theorem litReads_row_tie : Rows.litReadsRow.laidByTextAt .later Tryd.pinned [.data, .widerDeep, .widerDeep, .widerDeep] true :=
  OpenClaim.laidByTextAt_later rfl rfl tie noOwnUnsafe
theorem tie2 : Tryd.prog.laidByTextLater [("math/bits.deBruijn32tab", Rows.laid_math_bits_deBruijn32tab), ("math/bits.deBruijn64tab", Rows.laid_math_bits_deBruijn64tab), ("internal/strconv.uint64pow10", Rows.laid_internal_strconv_uint64pow10), ("narthex/utf.forms", Rows.laid_narthex_utf_forms), ("narthex/chars.documents", Rows.laid_narthex_chars_documents), ("narthex/chars.starts", Rows.laid_narthex_chars_starts), ("narthex/chars.more", Rows.laid_narthex_chars_more)] [.data, .data, .data, .data, .widerDeep, .widerDeep, .widerDeep] true :=
  Program.laidByTextLater.sub seatTie1 ["math/bits.deBruijn32tab", "math/bits.deBruijn64tab", "internal/strconv.uint64pow10", "narthex/utf.forms", "narthex/chars.documents", "narthex/chars.starts", "narthex/chars.more"] (by kernel_rfl) (by kernel_rfl)
theorem litWrites_row_tie : Rows.litWritesRow.laidByTextAt .later Tryd.pinned [.data, .data, .data, .data, .widerDeep, .widerDeep, .widerDeep] true :=
  OpenClaim.laidByTextAt_later rfl rfl tie2 noOwnUnsafe
theorem crefChars_row_tie : Rows.crefCharsRow.laidByTextAt .later Tryd.pinned [.data, .data, .data, .data, .widerDeep, .widerDeep, .widerDeep] true :=
  OpenClaim.laidByTextAt_later rfl rfl tie2 noOwnUnsafe
theorem crefTexts_row_tie : Rows.crefTextsRow.laidByTextAt .later Tryd.pinned [.data, .data, .data, .data, .widerDeep, .widerDeep, .widerDeep] true :=
  OpenClaim.laidByTextAt_later rfl rfl tie2 noOwnUnsafe
theorem tie3 : Tryd.prog.laidByTextLater [("math/bits.deBruijn32tab", Rows.laid_math_bits_deBruijn32tab), ("math/bits.deBruijn64tab", Rows.laid_math_bits_deBruijn64tab), ("internal/strconv.uint64pow10", Rows.laid_internal_strconv_uint64pow10), ("narthex/utf.forms", Rows.laid_narthex_utf_forms), ("narthex/chars.documents", Rows.laid_narthex_chars_documents), ("narthex/chars.starts", Rows.laid_narthex_chars_starts), ("narthex/chars.more", Rows.laid_narthex_chars_more), ("narthex/cref.known", Rows.laid_narthex_cref_known)] [.data, .data, .data, .data, .widerDeep, .widerDeep, .widerDeep, .data] true :=
  Program.laidByTextLater.sub seatTie1 ["math/bits.deBruijn32tab", "math/bits.deBruijn64tab", "internal/strconv.uint64pow10", "narthex/utf.forms", "narthex/chars.documents", "narthex/chars.starts", "narthex/chars.more", "narthex/cref.known"] (by kernel_rfl) (by kernel_rfl)
theorem crefNames_row_tie : Rows.crefNamesRow.laidByTextAt .later Tryd.pinned [.data, .data, .data, .data, .widerDeep, .widerDeep, .widerDeep, .data] true :=
  OpenClaim.laidByTextAt_later rfl rfl tie3 noOwnUnsafe
theorem litRefsUpto_row_tie : Rows.litRefsUptoRow.laidByTextAt .later Tryd.pinned [.data, .widerDeep, .widerDeep, .widerDeep] true :=
  OpenClaim.laidByTextAt_later rfl rfl tie noOwnUnsafe
theorem litReadsUpto_row_tie : Rows.litReadsUptoRow.laidByTextAt .later Tryd.pinned [.data, .widerDeep, .widerDeep, .widerDeep] true :=
  OpenClaim.laidByTextAt_later rfl rfl tie noOwnUnsafe
theorem litWritesUpto_row_tie : Rows.litWritesUptoRow.laidByTextAt .later Tryd.pinned [.data, .data, .data, .data, .widerDeep, .widerDeep, .widerDeep] true :=
  OpenClaim.laidByTextAt_later rfl rfl tie2 noOwnUnsafe
theorem crefCharsUpto_row_tie : Rows.crefCharsUptoRow.laidByTextAt .later Tryd.pinned [.data, .data, .data, .data, .widerDeep, .widerDeep, .widerDeep] true :=
  OpenClaim.laidByTextAt_later rfl rfl tie2 noOwnUnsafe
theorem crefTextsUpto_row_tie : Rows.crefTextsUptoRow.laidByTextAt .later Tryd.pinned [.data, .data, .data, .data, .widerDeep, .widerDeep, .widerDeep] true :=
  OpenClaim.laidByTextAt_later rfl rfl tie2 noOwnUnsafe
theorem crefNamesUpto_row_tie : Rows.crefNamesUptoRow.laidByTextAt .later Tryd.pinned [.data, .data, .data, .data, .widerDeep, .widerDeep, .widerDeep, .data] true :=
  OpenClaim.laidByTextAt_later rfl rfl tie3 noOwnUnsafe
end Go.Proofs.YtljplmidnlahpaaDoor
