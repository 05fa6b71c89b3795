/- Texts of ours, joined: Shelf, Base, CharPlain, Str, Pfx, Bits, Shelf2, LibB, Utf1. -/
import Derived.Shelf.Strings.Builder1
import Derived.Shelf.Small.Utf8
import Derived.Shelf.Small.Strs
import Derived.Shelf.Strconv.Itoa0
import Derived.Shelf.Strconv.Itoa1
import Derived.Shelf.LaysM
import Derived.Shelf.Strconv.Itoa2
import Derived.Shelf.Strconv.Itoa3
import Derived.Shelf.Strings.Search1
import Derived.Shelf.Strings.Search2
import Derived.Shelf.Strings.Search3
import Derived.Shelf.Strings.Shaped
import Derived.Shelf.Strings.Prefix
import Derived.Shelf.Strings.Fold
import Derived.Shelf.Unicode.Decode
import Derived.Shelf.Strings.Runes
import Derived.Shelf.Strings.IndexAny
import Derived.Shelf.Strings.AsciiSet
import Derived.Shelf.Strings.IndexAnyAll
import Derived.Shelf.Unicode.DecodeSlow
import Derived.Shelf.Unicode.DecodeAny
import Derived.Shelf.Unicode.CaseLookup
import Derived.Shelf.Unicode.CaseConvert
import Derived.Shelf.Bytes.SlIndexSmall
import Derived.Shelf.Bytes.SlIndexAt
import Derived.Shelf.Bytes.SlSearch0
import Derived.Shelf.Bytes.SlSearch1
import Derived.Shelf.Bytes.SlSearch2
import Derived.Shelf.Bytes.SlIndexWhole
import Derived.Shelf.Bytes.SlSmallAll
import Derived.Shelf.Bytes.SlEqualAll
import Derived.Shelf.Bytes.Small
import Derived.Shelf.Bytes.IndexByte
import Derived.Test.YtmclngahdklfkaaGreatDoorProg
import Derived.Test.YtmclngahdklfkaaGreatDoorRows
import Derived.WalkKit
import Derived.ProofKit
import Derived.OpenShut
import Derived.ShutString
import Derived.ChangeOld
import Derived.Below
import Derived.BigQuiet
import Derived.Deep.QuietTactic
import Derived.Lib.Hide
import Derived.Deep.RegionHeld3
import Derived.Lib.SlBytesConst
import Derived.Laws.CopyOwn
import Derived.Laws.CopyRow
import Derived.Lib.Bytes
import Derived.Deep.LoopGhost
import Derived.Deep.DeepFit
import Derived.Deep.DeepMust
import Derived.WalkSpells
import Derived.WalkLawsBesides
import Derived.Lib.ItoaNum
import Derived.Lib.ConvBytes
/-
  DERIVED: THE SHELF's CONTRACTS AT THIS DUMP, IN PLAIN WORDS (tools/lay-plain.mjs out of 'TryzShelf.lean', which tools/lay-shelf.mjs wrote): THE SAME DECLARATIONS UNDER THE SAME NAMES: 'import', 'namespace', 'open', 'def', 'theorem' AND NOTHING ELSE: no command of the shelf's: FOR A HAND-IN. Each laying: the table of numbers ('.._ren') and one theorem, a field a fact of the dump's own or the kernel's comparison; each contract: ONE APPLICATION.
-/
namespace Go.Proofs
open Go.Shelf
def Tryz.lays137_ren : Go.Shelf.Ren := ⟨fun | 137 => 143 | 217 => 145 | 266 => 135 | n => n, fun | 9 => 9 | 5 => 5 | 3 => 3 | n => n, fun | n => n⟩
theorem Tryz.lays137 : Go.Proofs.Lays.n137 Tryz.prog Tryz.lays137_ren := {
  mixed := by kernel_rfl
  f137 := Tryz.func143.trans (congrArg some (by kernel_rfl))
  f217 := Tryz.func145.trans (congrArg some (by kernel_rfl))
  f266 := Tryz.func135.trans (congrArg some (by kernel_rfl))
  t3 := Tryz.underlying3
  a3 := Tryz.isAgg3
  z3 := Tryz.sizeOf3
  v3 := Tryz.zeroValue3
  t5 := Tryz.underlying5
  a5 := Tryz.isAgg5
  z5 := Tryz.sizeOf5
  v5 := Tryz.zeroValue5
  t9 := Tryz.underlying9
  a9 := Tryz.isAgg9
  z9 := Tryz.sizeOf9
  v9 := Tryz.zeroValue9 }
open Go.RowKit in
/-- strings.IndexByte: "IndexByte returns the index of the first instance of c in s, or -1 if c is not present in s.": IT RETURNS 'Lib.indexByte s c'; the world is as it was. (LAID: no walk: one application.) -/
theorem Tryz.strings_IndexByte (s : ByteArray) (c : Int) (w : World) :
    Calls Tryz.prog 143 #[.string s, .int .u8 c] w fun e w' => e = .returned (.int .i64 (Lib.indexByte s.data.toList c.toNat.toUInt8)) ∧ w' = w := Any.strings_IndexByte Tryz.lays137 s c w
def Tryz.lays144_ren : Go.Shelf.Ren := ⟨fun | 144 => 45 | 143 => 77 | 219 => 110 | 217 => 145 | 225 => 141 | 224 => 130 | 267 => 146 | 266 => 135 | 314 => 166 | n => n, fun | 9 => 9 | 4 => 4 | 3 => 3 | 5 => 5 | 46 => 152 | 146 => 176 | 51 => 175 | n => n, fun | 1 => 1 | n => n⟩
theorem Tryz.lays144 : Go.Proofs.Lays.n144 Tryz.prog Tryz.lays144_ren := {
  mixed := by kernel_rfl
  f143 := Tryz.func77.trans (congrArg some (by kernel_rfl))
  f144 := Tryz.func45.trans (congrArg some (by kernel_rfl))
  f217 := Tryz.func145.trans (congrArg some (by kernel_rfl))
  f219 := Tryz.func110.trans (congrArg some (by kernel_rfl))
  f224 := Tryz.func130.trans (congrArg some (by kernel_rfl))
  f225 := Tryz.func141.trans (congrArg some (by kernel_rfl))
  f266 := Tryz.func135.trans (congrArg some (by kernel_rfl))
  f267 := Tryz.func146.trans (congrArg some (by kernel_rfl))
  f314 := Tryz.func166.trans (congrArg some (by kernel_rfl))
  t3 := Tryz.underlying3
  a3 := Tryz.isAgg3
  z3 := Tryz.sizeOf3
  v3 := Tryz.zeroValue3
  t4 := Tryz.underlying4
  a4 := Tryz.isAgg4
  z4 := Tryz.sizeOf4
  v4 := Tryz.zeroValue4
  t5 := Tryz.underlying5
  a5 := Tryz.isAgg5
  z5 := Tryz.sizeOf5
  v5 := Tryz.zeroValue5
  t9 := Tryz.underlying9
  a9 := Tryz.isAgg9
  z9 := Tryz.sizeOf9
  v9 := Tryz.zeroValue9
  t46 := Tryz.underlying152
  a46 := Tryz.isAgg152
  z46 := Tryz.sizeOf152
  v46 := Tryz.zeroValue152
  t51 := Tryz.underlying175
  a51 := Tryz.isAgg175
  z51 := Tryz.sizeOf175
  v51 := Tryz.zeroValue175
  t146 := Tryz.underlying176
  a146 := Tryz.isAgg176
  z146 := Tryz.sizeOf176
  v146 := Tryz.zeroValue176
  g1 := by kernel_rfl }
open Go.RowKit Go.Lib in
/-- strings.Contains: "Contains reports whether substr is within s.": IT RETURNS 'Lib.contains s substr'; the world is as it was. (LAID: no walk: one application.) -/
theorem Tryz.strings_Contains (s sub : ByteArray) (m : Int) (w : World) (hs : s.size < 4294967281) (hm : w.cell? ⟨1, 0, none⟩ = some (.int .i64 m)) :
    Calls Tryz.prog 45 #[.string s, .string sub] w fun e w' => e = .returned (.bool (Lib.contains s.data.toList sub.data.toList)) ∧ w' = w := Any.strings_Contains Tryz.lays144 s sub m w hs hm
def Tryz.lays99_ren : Go.Shelf.Ren := ⟨fun | 99 => 133 | 206 => 162 | n => n, fun | 9 => 9 | 4 => 4 | 3 => 3 | n => n, fun | n => n⟩
theorem Tryz.lays99 : Go.Proofs.Lays.n99 Tryz.prog Tryz.lays99_ren := {
  mixed := by kernel_rfl
  f99 := Tryz.func133.trans (congrArg some (by kernel_rfl))
  f206 := Tryz.func162.trans (congrArg some (by kernel_rfl))
  t3 := Tryz.underlying3
  a3 := Tryz.isAgg3
  z3 := Tryz.sizeOf3
  v3 := Tryz.zeroValue3
  t4 := Tryz.underlying4
  a4 := Tryz.isAgg4
  z4 := Tryz.sizeOf4
  v4 := Tryz.zeroValue4
  t9 := Tryz.underlying9
  a9 := Tryz.isAgg9
  z9 := Tryz.sizeOf9
  v9 := Tryz.zeroValue9 }
open Go.RowKit Go.Lib in
/-- strings.HasPrefix: "HasPrefix reports whether the string s begins with prefix.": IT RETURNS 'Lib.hasPrefix s prefix'; the world is as it was. (LAID: no walk: one application.) -/
theorem Tryz.strings_HasPrefix (s p : ByteArray) (w : World) :
    Calls Tryz.prog 133 #[.string s, .string p] w fun e w' => e = .returned (.bool (Lib.hasPrefix s.data.toList p.data.toList)) ∧ w' = w := Any.strings_HasPrefix Tryz.lays99 s p w
def Tryz.lays164_ren : Go.Shelf.Ren := ⟨fun | 164 => 119 | 197 => 152 | 239 => 153 | 260 => 173 | 274 => 174 | 275 => 175 | n => n, fun | 9 => 9 | 4 => 4 | 3 => 3 | 5 => 5 | 0 => 0 | 21 => 21 | 105 => 160 | 156 => 194 | 49 => 193 | 157 => 195 | 46 => 152 | 159 => 197 | 162 => 200 | 160 => 198 | 119 => 202 | 139 => 205 | 138 => 204 | 208 => 213 | 51 => 175 | 206 => 211 | n => n, fun | 11 => 5 | 12 => 6 | 13 => 7 | 3 => 8 | 4 => 9 | n => n⟩
theorem Tryz.lays164 : Go.Proofs.Lays.n164 Tryz.prog Tryz.lays164_ren := {
  mixed := by kernel_rfl
  f164 := Tryz.func119.trans (congrArg some (by kernel_rfl))
  f197 := Tryz.func152.trans (congrArg some (by kernel_rfl))
  f239 := Tryz.func153.trans (congrArg some (by kernel_rfl))
  f260 := Tryz.func173.trans (congrArg some (by kernel_rfl))
  f274 := Tryz.func174.trans (congrArg some (by kernel_rfl))
  f275 := Tryz.func175.trans (congrArg some (by kernel_rfl))
  t0 := Tryz.underlying0
  a0 := Tryz.isAgg0
  z0 := Tryz.sizeOf0
  v0 := Tryz.zeroValue0
  t3 := Tryz.underlying3
  a3 := Tryz.isAgg3
  z3 := Tryz.sizeOf3
  v3 := Tryz.zeroValue3
  t4 := Tryz.underlying4
  a4 := Tryz.isAgg4
  z4 := Tryz.sizeOf4
  v4 := Tryz.zeroValue4
  t5 := Tryz.underlying5
  a5 := Tryz.isAgg5
  z5 := Tryz.sizeOf5
  v5 := Tryz.zeroValue5
  t9 := Tryz.underlying9
  a9 := Tryz.isAgg9
  z9 := Tryz.sizeOf9
  v9 := Tryz.zeroValue9
  t21 := Tryz.underlying21
  a21 := Tryz.isAgg21
  z21 := Tryz.sizeOf21
  v21 := Tryz.zeroValue21
  t46 := Tryz.underlying152
  a46 := Tryz.isAgg152
  z46 := Tryz.sizeOf152
  v46 := Tryz.zeroValue152
  t49 := Tryz.underlying193
  a49 := Tryz.isAgg193
  z49 := Tryz.sizeOf193
  v49 := Tryz.zeroValue193
  t51 := Tryz.underlying175
  a51 := Tryz.isAgg175
  z51 := Tryz.sizeOf175
  v51 := Tryz.zeroValue175
  t105 := Tryz.underlying160
  a105 := Tryz.isAgg160
  z105 := Tryz.sizeOf160
  v105 := Tryz.zeroValue160
  t119 := Tryz.underlying202
  a119 := Tryz.isAgg202
  z119 := Tryz.sizeOf202
  t138 := Tryz.underlying204
  a138 := Tryz.isAgg204
  z138 := Tryz.sizeOf204
  v138 := Tryz.zeroValue204
  t139 := Tryz.underlying205
  a139 := Tryz.isAgg205
  z139 := Tryz.sizeOf205
  v139 := Tryz.zeroValue205
  t156 := Tryz.underlying194
  a156 := Tryz.isAgg194
  z156 := Tryz.sizeOf194
  t157 := Tryz.underlying195
  a157 := Tryz.isAgg195
  z157 := Tryz.sizeOf195
  v157 := Tryz.zeroValue195
  t159 := Tryz.underlying197
  a159 := Tryz.isAgg197
  z159 := Tryz.sizeOf197
  v159 := Tryz.zeroValue197
  t160 := Tryz.underlying198
  a160 := Tryz.isAgg198
  z160 := Tryz.sizeOf198
  v160 := Tryz.zeroValue198
  t162 := Tryz.underlying200
  a162 := Tryz.isAgg200
  z162 := Tryz.sizeOf200
  v162 := Tryz.zeroValue200
  t206 := Tryz.underlying211
  a206 := Tryz.isAgg211
  z206 := Tryz.sizeOf211
  v206 := Tryz.zeroValue211
  t208 := Tryz.underlying213
  a208 := Tryz.isAgg213
  z208 := Tryz.sizeOf213
  v208 := Tryz.zeroValue213
  g3 := by kernel_rfl
  g4 := by kernel_rfl
  g11 := by kernel_rfl
  g12 := by kernel_rfl
  g13 := by kernel_rfl }
open Go.RowKit Go.Lib in
theorem Tryz.strings_EqualFold (s t : ByteArray) (w : World) (hs : s.size < 4294967281) (has : ∀ (j : Nat) b, s.data.toList[j]? = some b → b.toNat < 128) (hat : ∀ (j : Nat) b, t.data.toList[j]? = some b → b.toNat < 128) :
    Calls Tryz.prog 119 #[.string s, .string t] w fun e w' => e = .returned (.bool (Lib.equalFold s.data.toList t.data.toList)) ∧ w' = w := Any.strings_EqualFold Tryz.lays164 s t w hs has hat
def Tryz.lays197_ren : Go.Shelf.Ren := ⟨fun | 197 => 152 | 260 => 173 | n => n, fun | 9 => 9 | 21 => 21 | 3 => 3 | 4 => 4 | 5 => 5 | 105 => 160 | 119 => 202 | 0 => 0 | 46 => 152 | 139 => 205 | 138 => 204 | n => n, fun | 3 => 8 | 4 => 9 | n => n⟩
theorem Tryz.lays197 : Go.Proofs.Lays.n197 Tryz.prog Tryz.lays197_ren := {
  mixed := by kernel_rfl
  f197 := Tryz.func152.trans (congrArg some (by kernel_rfl))
  f260 := Tryz.func173.trans (congrArg some (by kernel_rfl))
  t0 := Tryz.underlying0
  a0 := Tryz.isAgg0
  z0 := Tryz.sizeOf0
  v0 := Tryz.zeroValue0
  t3 := Tryz.underlying3
  a3 := Tryz.isAgg3
  z3 := Tryz.sizeOf3
  v3 := Tryz.zeroValue3
  t4 := Tryz.underlying4
  a4 := Tryz.isAgg4
  z4 := Tryz.sizeOf4
  v4 := Tryz.zeroValue4
  t5 := Tryz.underlying5
  a5 := Tryz.isAgg5
  z5 := Tryz.sizeOf5
  v5 := Tryz.zeroValue5
  t9 := Tryz.underlying9
  a9 := Tryz.isAgg9
  z9 := Tryz.sizeOf9
  v9 := Tryz.zeroValue9
  t21 := Tryz.underlying21
  a21 := Tryz.isAgg21
  z21 := Tryz.sizeOf21
  v21 := Tryz.zeroValue21
  t46 := Tryz.underlying152
  a46 := Tryz.isAgg152
  z46 := Tryz.sizeOf152
  v46 := Tryz.zeroValue152
  t105 := Tryz.underlying160
  a105 := Tryz.isAgg160
  z105 := Tryz.sizeOf160
  v105 := Tryz.zeroValue160
  t119 := Tryz.underlying202
  a119 := Tryz.isAgg202
  z119 := Tryz.sizeOf202
  t138 := Tryz.underlying204
  a138 := Tryz.isAgg204
  z138 := Tryz.sizeOf204
  v138 := Tryz.zeroValue204
  t139 := Tryz.underlying205
  a139 := Tryz.isAgg205
  z139 := Tryz.sizeOf205
  v139 := Tryz.zeroValue205
  g3 := by kernel_rfl
  g4 := by kernel_rfl }
open Go.RowKit Go.Lib in
/-- unicode/utf8.DecodeRuneInString: "DecodeRuneInString is like DecodeRune but its input is a string.": ("DecodeRune unpacks the first UTF-8 encoding in p and returns the rune and its width in bytes."): WHERE s BEGINS WITH AN ASCII BYTE x: (x, 1). (LAID: no walk: one application.) -/
theorem Tryz.utf8_DecodeRuneInString_ascii (s : ByteArray) (x : UInt8) (w : World) (h0 : s.data.toList[0]? = some x) (hx : x.toNat < 128) :
    Calls Tryz.prog 152 #[.string s] w fun e w' => e = .returned (.tuple #[.int .i32 x.toNat, .int .i64 1]) ∧ w' = w := Any.utf8_DecodeRuneInString_ascii Tryz.lays197 s x w h0 hx
def Tryz.lays274_ren : Go.Shelf.Ren := ⟨fun | 274 => 174 | n => n, fun | 21 => 21 | 162 => 200 | 160 => 198 | 3 => 3 | 4 => 4 | 46 => 152 | 0 => 0 | 208 => 213 | 51 => 175 | 206 => 211 | n => n, fun | n => n⟩
theorem Tryz.lays274 : Go.Proofs.Lays.n274 Tryz.prog Tryz.lays274_ren := {
  mixed := by kernel_rfl
  f274 := Tryz.func174.trans (congrArg some (by kernel_rfl))
  t0 := Tryz.underlying0
  a0 := Tryz.isAgg0
  z0 := Tryz.sizeOf0
  v0 := Tryz.zeroValue0
  t3 := Tryz.underlying3
  a3 := Tryz.isAgg3
  z3 := Tryz.sizeOf3
  v3 := Tryz.zeroValue3
  t4 := Tryz.underlying4
  a4 := Tryz.isAgg4
  z4 := Tryz.sizeOf4
  v4 := Tryz.zeroValue4
  t21 := Tryz.underlying21
  a21 := Tryz.isAgg21
  z21 := Tryz.sizeOf21
  v21 := Tryz.zeroValue21
  t46 := Tryz.underlying152
  a46 := Tryz.isAgg152
  z46 := Tryz.sizeOf152
  v46 := Tryz.zeroValue152
  t51 := Tryz.underlying175
  a51 := Tryz.isAgg175
  z51 := Tryz.sizeOf175
  v51 := Tryz.zeroValue175
  t160 := Tryz.underlying198
  a160 := Tryz.isAgg198
  z160 := Tryz.sizeOf198
  v160 := Tryz.zeroValue198
  t162 := Tryz.underlying200
  a162 := Tryz.isAgg200
  z162 := Tryz.sizeOf200
  v162 := Tryz.zeroValue200
  t208 := Tryz.underlying213
  a208 := Tryz.isAgg213
  z208 := Tryz.sizeOf213
  v208 := Tryz.zeroValue213 }
def Tryz.lays185_ren : Go.Shelf.Ren := ⟨fun | 185 => 96 | 187 => 128 | 115 => 93 | 253 => 129 | 224 => 130 | 254 => 131 | 255 => 160 | 291 => 161 | n => n, fun | 37 => 22 | 3 => 3 | 4 => 4 | 0 => 0 | 5 => 5 | 46 => 152 | 9 => 9 | 146 => 176 | 51 => 175 | n => n, fun | 1 => 1 | n => n⟩
theorem Tryz.lays185 : Go.Proofs.Lays.n185 Tryz.prog Tryz.lays185_ren := {
  mixed := by kernel_rfl
  f115 := Tryz.func93.trans (congrArg some (by kernel_rfl))
  f185 := Tryz.func96.trans (congrArg some (by kernel_rfl))
  f187 := Tryz.func128.trans (congrArg some (by kernel_rfl))
  f224 := Tryz.func130.trans (congrArg some (by kernel_rfl))
  f253 := Tryz.func129.trans (congrArg some (by kernel_rfl))
  f254 := Tryz.func131.trans (congrArg some (by kernel_rfl))
  f255 := Tryz.func160.trans (congrArg some (by kernel_rfl))
  f291 := Tryz.func161.trans (congrArg some (by kernel_rfl))
  t0 := Tryz.underlying0
  a0 := Tryz.isAgg0
  z0 := Tryz.sizeOf0
  v0 := Tryz.zeroValue0
  t3 := Tryz.underlying3
  a3 := Tryz.isAgg3
  z3 := Tryz.sizeOf3
  v3 := Tryz.zeroValue3
  t4 := Tryz.underlying4
  a4 := Tryz.isAgg4
  z4 := Tryz.sizeOf4
  v4 := Tryz.zeroValue4
  t5 := Tryz.underlying5
  a5 := Tryz.isAgg5
  z5 := Tryz.sizeOf5
  v5 := Tryz.zeroValue5
  t9 := Tryz.underlying9
  a9 := Tryz.isAgg9
  z9 := Tryz.sizeOf9
  v9 := Tryz.zeroValue9
  t37 := Tryz.underlying22
  a37 := Tryz.isAgg22
  z37 := Tryz.sizeOf22
  v37 := Tryz.zeroValue22
  t46 := Tryz.underlying152
  a46 := Tryz.isAgg152
  z46 := Tryz.sizeOf152
  v46 := Tryz.zeroValue152
  t51 := Tryz.underlying175
  a51 := Tryz.isAgg175
  z51 := Tryz.sizeOf175
  v51 := Tryz.zeroValue175
  t146 := Tryz.underlying176
  a146 := Tryz.isAgg176
  z146 := Tryz.sizeOf176
  v146 := Tryz.zeroValue176
  g1 := by kernel_rfl }
def Tryz.lays187_ren : Go.Shelf.Ren := ⟨fun | 187 => 128 | 255 => 160 | n => n, fun | 37 => 22 | 5 => 5 | 3 => 3 | n => n, fun | n => n⟩
theorem Tryz.lays187 : Go.Proofs.Lays.n187 Tryz.prog Tryz.lays187_ren := {
  mixed := by kernel_rfl
  f187 := Tryz.func128.trans (congrArg some (by kernel_rfl))
  f255 := Tryz.func160.trans (congrArg some (by kernel_rfl))
  t3 := Tryz.underlying3
  a3 := Tryz.isAgg3
  z3 := Tryz.sizeOf3
  v3 := Tryz.zeroValue3
  t5 := Tryz.underlying5
  a5 := Tryz.isAgg5
  z5 := Tryz.sizeOf5
  v5 := Tryz.zeroValue5
  t37 := Tryz.underlying22
  a37 := Tryz.isAgg22
  z37 := Tryz.sizeOf22
  v37 := Tryz.zeroValue22 }
open Go.RowKit Go.Lib in
/-- bytes.IndexByte, b at whatever address: "IndexByte returns the index of the first instance of c in b, or -1 if c is not present in b." (LAID: no walk: one application.) -/
theorem Tryz.bytes_IndexByte_at (a : Addr) (n c : Nat) (xs : List Int) (cv : Int) (w : World) (hx : xs.length = n) (hc : ∀ i, i < n → w.cell? (a.add i) = some (.int .u8 (xs.getD i 0))) :
    Calls Tryz.prog 128 #[.slice (some a) n c, .int .u8 cv] w fun e w' => e = .returned (.int .i64 (Lib.indexByte (Lib.bytesOf xs) cv.toNat.toUInt8)) ∧ w' = w := Any.bytes_IndexByte_at Tryz.lays187 a n c xs cv w hx hc
open Go.Proofs Go.RowKit Go.Lib in
/-- bytes.Index, WHOLE: "Index returns the index of the first instance of sep in s, or -1 if sep is not present in s.": 'Lib.index' of the two lists of bytes. (LAID: no walk: one application.) -/
theorem Tryz.bytes_Index_at (a1 a2 : Addr) (n c1 k c2 : Nat) (xs ys : List Int) (m : Int) (w : World) (hx : xs.length = n) (hy : ys.length = k) (hr1 : ∀ x ∈ xs, 0 ≤ x ∧ x < 256) (hr2 : ∀ y ∈ ys, 0 ≤ y ∧ y < 256) (hc1 : ∀ i, i < n → w.cell? (a1.add i) = some (.int .u8 (xs.getD i 0))) (hc2 : ∀ i, i < k → w.cell? (a2.add i) = some (.int .u8 (ys.getD i 0))) (hcap : n ≤ c1) (hs : n < 4294967281) (hk : k ≤ 9223372036854775807) (hm : w.cell? ⟨1, 0, none⟩ = some (.int .i64 m)) :
    Calls Tryz.prog 96 #[.slice (some a1) n c1, .slice (some a2) k c2] w fun e w' => e = .returned (.int .i64 (Lib.index (Lib.bytesOf xs) (Lib.bytesOf ys))) ∧ ∃ q, w' = w.drewN q := Any.bytes_Index_at Tryz.lays185 a1 a2 n c1 k c2 xs ys m w hx hy hr1 hr2 hc1 hc2 hcap hs hk hm
open Go.Proofs Go.RowKit Go.Lib in
/-- bytes.Index where s is nil: 0 at a separator of no byte, else -1. (LAID: no walk: one application.) -/
theorem Tryz.bytes_Index_nil (p2 : Option Addr) (k c2 : Nat) (w : World) (hk : k ≤ 9223372036854775807) (h1 : k = 1 → ∃ b2 o2 cv, p2 = some ⟨b2, o2, none⟩ ∧ w.cell? ⟨b2, o2, none⟩ = some (.int .u8 cv)) :
    Calls Tryz.prog 96 #[.slice none 0 0, .slice p2 k c2] w fun e w' => e = .returned (.int .i64 (if k = 0 then 0 else -1)) ∧ w' = w := Any.bytes_Index_nil Tryz.lays185 p2 k c2 w hk h1
def Tryz.laysM185_ren : Go.Shelf.Ren := ⟨fun | 185 => 96 | 187 => 128 | 115 => 93 | 253 => 129 | 224 => 130 | 254 => 131 | 255 => 160 | 291 => 161 | n => n, fun | 37 => 22 | 3 => 3 | 4 => 4 | 0 => 0 | 5 => 5 | 46 => 152 | 9 => 9 | 146 => 176 | 51 => 175 | n => n, fun | 1 => 1 | n => n⟩
theorem Tryz.laysM185 : Go.Proofs.LaysM.n185 Tryz.prog Tryz.laysM185_ren := {
  mixed := by kernel_rfl
  f115 := Tryz.func93.trans (congrArg some (by kernel_rfl))
  f185 := Tryz.func96.trans (congrArg some (by kernel_rfl))
  f187 := Tryz.func128.trans (congrArg some (by kernel_rfl))
  f224 := Tryz.func130.trans (congrArg some (by kernel_rfl))
  f253 := Tryz.func129.trans (congrArg some (by kernel_rfl))
  f254 := Tryz.func131.trans (congrArg some (by kernel_rfl))
  f255 := Tryz.func160.trans (congrArg some (by kernel_rfl))
  f291 := Tryz.func161.trans (congrArg some (by kernel_rfl))
  t0 := Tryz.underlying0
  a0 := Tryz.isAgg0
  z0 := Tryz.sizeOf0
  v0 := Tryz.zeroValue0
  t3 := Tryz.underlying3
  a3 := Tryz.isAgg3
  z3 := Tryz.sizeOf3
  v3 := Tryz.zeroValue3
  t4 := Tryz.underlying4
  a4 := Tryz.isAgg4
  z4 := Tryz.sizeOf4
  v4 := Tryz.zeroValue4
  t5 := Tryz.underlying5
  a5 := Tryz.isAgg5
  z5 := Tryz.sizeOf5
  v5 := Tryz.zeroValue5
  t9 := Tryz.underlying9
  a9 := Tryz.isAgg9
  z9 := Tryz.sizeOf9
  v9 := Tryz.zeroValue9
  t37 := Tryz.underlying22
  a37 := Tryz.isAgg22
  z37 := Tryz.sizeOf22
  v37 := Tryz.zeroValue22
  t46 := Tryz.underlying152
  a46 := Tryz.isAgg152
  z46 := Tryz.sizeOf152
  v46 := Tryz.zeroValue152
  t51 := Tryz.underlying175
  a51 := Tryz.isAgg175
  z51 := Tryz.sizeOf175
  v51 := Tryz.zeroValue175
  t146 := Tryz.underlying176
  a146 := Tryz.isAgg176
  z146 := Tryz.sizeOf176
  v146 := Tryz.zeroValue176
  g1 := by kernel_rfl
  i0 := by kernel_rfl
  i3 := by kernel_rfl
  i4 := by kernel_rfl
  i5 := by kernel_rfl
  i9 := by kernel_rfl
  i37 := by kernel_rfl
  i46 := by kernel_rfl
  i51 := by kernel_rfl
  i146 := by kernel_rfl
  m1 := by kernel_rfl
  s1_3 := fun w h => Go.Proofs.cell_of_shapedOpen_int (zero := #[.int .i64 0]) (t := 3) h (of_decide_eq_true (by kernel_rfl)) (by kernel_rfl) rfl (by kernel_rfl) (by kernel_rfl) Tryz.underlying3 }
def Tryz.laysnb116_ren : Go.Shelf.Ren := ⟨fun | 116 => 60 | 115 => 93 | n => n, fun | 37 => 22 | 4 => 4 | 3 => 3 | 9 => 9 | 5 => 5 | n => n, fun | n => n⟩
theorem Tryz.laysnb116 : Go.Proofs.Lays.nb116 Tryz.prog Tryz.laysnb116_ren := {
  mixed := by kernel_rfl
  f115 := Tryz.func93.trans (congrArg some (by kernel_rfl))
  f116 := Tryz.func60.trans (congrArg some (by kernel_rfl))
  t3 := Tryz.underlying3
  a3 := Tryz.isAgg3
  z3 := Tryz.sizeOf3
  v3 := Tryz.zeroValue3
  t4 := Tryz.underlying4
  a4 := Tryz.isAgg4
  z4 := Tryz.sizeOf4
  v4 := Tryz.zeroValue4
  t9 := Tryz.underlying9
  a9 := Tryz.isAgg9
  z9 := Tryz.sizeOf9
  v9 := Tryz.zeroValue9
  t37 := Tryz.underlying22
  a37 := Tryz.isAgg22
  z37 := Tryz.sizeOf22
  v37 := Tryz.zeroValue22
  t5 := Tryz.underlying5
  a5 := Tryz.isAgg5
  z5 := Tryz.sizeOf5
  v5 := Tryz.zeroValue5 }
def Tryz.laysnb141_ren : Go.Shelf.Ren := ⟨fun | 141 => 126 | 116 => 60 | 115 => 93 | n => n, fun | 37 => 22 | 4 => 4 | 3 => 3 | 9 => 9 | 5 => 5 | n => n, fun | n => n⟩
theorem Tryz.laysnb141 : Go.Proofs.Lays.nb141 Tryz.prog Tryz.laysnb141_ren := {
  mixed := by kernel_rfl
  f115 := Tryz.func93.trans (congrArg some (by kernel_rfl))
  f116 := Tryz.func60.trans (congrArg some (by kernel_rfl))
  f141 := Tryz.func126.trans (congrArg some (by kernel_rfl))
  t3 := Tryz.underlying3
  a3 := Tryz.isAgg3
  z3 := Tryz.sizeOf3
  v3 := Tryz.zeroValue3
  t4 := Tryz.underlying4
  a4 := Tryz.isAgg4
  z4 := Tryz.sizeOf4
  v4 := Tryz.zeroValue4
  t9 := Tryz.underlying9
  a9 := Tryz.isAgg9
  z9 := Tryz.sizeOf9
  v9 := Tryz.zeroValue9
  t37 := Tryz.underlying22
  a37 := Tryz.isAgg22
  z37 := Tryz.sizeOf22
  v37 := Tryz.zeroValue22
  t5 := Tryz.underlying5
  a5 := Tryz.isAgg5
  z5 := Tryz.sizeOf5
  v5 := Tryz.zeroValue5 }
/-- bytes.HasPrefix: WHOLE: each argument nil, or of no byte at whatever address, or at an address with its cells. (LAID: no walk: one application.) -/
theorem Tryz.bytes_HasPrefix_all (p1 p2 : Option Addr) (n c m d : Nat) (xs ys : List Int) (w : World) (hx : xs.length = n) (hy : ys.length = m) (hnc : n ≤ c) (h1 : Lib.BytesIn w p1 n xs) (h2 : Lib.BytesIn w p2 m ys) :
    Calls Tryz.prog 60 #[.slice p1 n c, .slice p2 m d] w fun e w' => e = .returned (.bool (Lib.hasPrefix (Lib.bytesOf xs) (Lib.bytesOf ys))) ∧ w' = w := Any.bytes_HasPrefix_all Tryz.laysnb116 p1 p2 n c m d xs ys w hx hy hnc h1 h2
/-- bytes.CutPrefix: WHOLE. (LAID: no walk: one application.) -/
theorem Tryz.bytes_CutPrefix_all (p1 p2 : Option Addr) (n c m d : Nat) (xs ys : List Int) (w : World) (hx : xs.length = n) (hy : ys.length = m) (hnc : n ≤ c) (h1 : Lib.BytesIn w p1 n xs) (h2 : Lib.BytesIn w p2 m ys) :
    Calls Tryz.prog 126 #[.slice p1 n c, .slice p2 m d] w fun e w' => e = .returned (.tuple #[Lib.trimPrefixV p1 n c xs ys, .bool (Lib.hasPrefix (Lib.bytesOf xs) (Lib.bytesOf ys))]) ∧ w' = w := Any.bytes_CutPrefix_all Tryz.laysnb141 p1 p2 n c m d xs ys w hx hy hnc h1 h2
/-- bytes.IndexByte AT nil: -1. (LAID: no walk: one application.) -/
theorem Tryz.bytes_IndexByte_nil (cv : Int) (w : World) :
    Calls Tryz.prog 128 #[.slice none 0 0, .int .u8 cv] w fun e w' => e = .returned (.int .i64 (-1)) ∧ w' = w := Any.bytes_IndexByte_nil Tryz.lays187 cv w
end Go.Proofs
/- Small lemmas on worlds, slices of bytes and strings that this seat's texts use; no condition. -/
namespace Go.Proofs.YtmclngahdklfkaaGreatDoor
open Go.ChangeShapes Go.WideShapes Go.ChangeAt Go.RowKit
set_option linter.unusedVariables false
/-- What every file over this seat uses: blocks of cells as wholes, and how they stand behind a store and a new block. -/
theorem cell_of {w : World} {b : Nat} {vs : Array Value} {T : TypeId} {f : Nat × Nat} (i : Nat) (h : w.heap[b]? = some (.cells vs T f)) : w.cell? ⟨b, i, none⟩ = vs[i]? := by simp [World.cell?, h]
theorem free_of {w : World} {b : Nat} {vs : Array Value} {T : TypeId} (i : Nat) (h : w.heap[b]? = some (.cells vs T)) : w.frozen? ⟨b, i, none⟩ = false := by simp [World.frozen?, h]
theorem lt_of {w : World} {b : Nat} {o : Obj} (h : w.heap[b]? = some o) : b < w.heap.size := by
  rcases Nat.lt_or_ge b w.heap.size with h' | h'
  · exact h'
  · simp [Array.getElem?_eq_none h'] at h
theorem hp_new (w : World) (o : Obj) : (w.alloc o).heap[w.heap.size]? = some o := by
  show (w.heap.push o)[w.heap.size]? = _
  simp
theorem hp_old {w : World} {o o' : Obj} {k : Nat} (h : w.heap[k]? = some o') : (w.alloc o).heap[k]? = some o' := by
  rw [← h]; exact Below.heap_alloc _ _ _ (lt_of h)
theorem hp_other {w : World} {b i k : Nat} {v : Value} (h : k ≠ b) : (w.setCell ⟨b, i, none⟩ v).heap[k]? = w.heap[k]? := Below.heap_setCell _ _ _ _ h
theorem hp_set {w : World} {b i : Nat} {v : Value} {vs : Array Value} {T : TypeId} {f : Nat × Nat} (h : w.heap[b]? = some (.cells vs T f)) :
    (w.setCell ⟨b, i, none⟩ v).heap[b]? = some (.cells (vs.setIfInBounds i v) T f) := by
  simp [World.setCell, Array.getElem?_modify, h]
theorem below_drewN' {B : Nat} {a w : World} {n : Nat} (h : Below B a w) : Below B a (w.drewN n) := below_drewN h n
theorem _root_.Go.World.grownBy.drewN {a w : World} {row : Option Nat} {n : Nat} (h : a.grownBy w row) : a.grownBy (w.drewN n) row := ⟨h.os, h.tape, h.output, h.size, h.block⟩
theorem _root_.Go.World.grownBy.setCell {a w : World} {b : Nat} (h : a.grownBy w (some b)) (i : Nat) (v : Value) : a.grownBy (w.setCell ⟨b, i, none⟩ v) (some b) :=
  ⟨h.os, h.tape, h.output, by simpa using h.size, fun k hk hr => by rw [hp_other (by intro e; exact hr (by rw [e]))]; exact h.block k hk hr⟩
theorem _root_.Go.World.grownBy.alloc {a w : World} {row : Option Nat} (h : a.grownBy w row) (o : Obj) : a.grownBy (w.alloc o) row :=
  ⟨h.os, h.tape, h.output, by have := h.size; simp; omega, fun k hk hr => by rw [Below.heap_alloc _ _ _ (by have := h.size; omega)]; exact h.block k hk hr⟩
theorem _root_.Go.RowKit.Below.gr {w w' : World} (h : Below w.heap.size w w') (row : Option Nat) : w.grownBy w' row := ⟨h.os, h.tape, h.output, h.size, fun k hk _ => h.block k hk⟩
theorem _root_.Go.World.grownBy.below {w w' : World} {b B : Nat} (h : w.grownBy w' (some b)) (hB : B ≤ w.heap.size) (hb : B ≤ b) : Below B w w' := (Below.refl B w).grown h hB fun k e => by cases e; exact hb
/-- WHAT THE WALK IS TOLD OF A SLICE OF INTEGERS THAT CAME IN. -/
def IsRow (k : IntKind) (w : World) (a : Option Addr) (len cap : Nat) (zs : List Int) : Prop :=
  (a = none ∧ len = 0 ∧ cap = 0 ∧ zs = []) ∨
  ∃ x, a = some x ∧ len ≤ cap ∧ cap ≤ maxLen ∧ zs.length = cap ∧ (∀ i, i < zs.length → w.cell? (x.add i) = some (.int k (zs.getD i 0))) ∧ ∀ n ∈ zs, (Lit.int k n).wf = true
theorem IsRow.at {k : IntKind} {w : World} {a : Option Addr} {len cap : Nat} {zs : List Int} (h : IsRow k w a len cap zs) : len ≤ cap ∧ zs.length = cap ∧ len ≤ maxLen ∧
    (0 < len → ∃ b o, a = some ⟨b, o, none⟩ ∧ b < w.heap.size ∧ ∀ i, i < len → w.cell? ⟨b, o + i, none⟩ = some (.int k (zs.getD i 0))) := by
  rcases h with ⟨rfl, rfl, rfl, rfl⟩ | ⟨⟨b, o, s⟩, rfl, hl, hm, hz, hc, _⟩
  · exact ⟨by omega, rfl, Nat.zero_le _, fun h => absurd h (by omega)⟩
  · refine ⟨hl, hz, by omega, fun h0 => ?_⟩
    have h := hc 0 (by omega)
    have hs : s = none := by simpa [Addr.add] using World.cell?_spot h
    subst hs
    exact ⟨b, o, rfl, World.block_lt_of_cell? w _ h, fun i hi => by
    have := hc i (by omega)
    unfold Addr.add at this
    split at this
    · rename_i hi; subst hi; exact this
    · exact this⟩

/-- One byte as the model holds it. -/
def bv (b : UInt8) : Value := .int .u8 b.toNat
/-- A slice of one-cell elements that can be read: n elements, room for cap, its cells below block B. -/
structure Rd (w : World) (B : Nat) (A : Option Addr) (n cap : Nat) (us : List Value) : Prop where
  len : us.length = n
  le : n ≤ cap
  fit : cap ≤ maxLen
  nil : A = none → cap = 0
  at_ : 0 < cap → ∃ b o, A = some ⟨b, o, none⟩ ∧ b < B ∧ ∀ i u, us[i]? = some u → w.cell? ⟨b, o + i, none⟩ = some u
/-- A slice of bytes that can be read. -/
def Byt (w : World) (B : Nat) (A : Option Addr) (n cap : Nat) (l : List UInt8) : Prop := Rd w B A n cap (l.map bv)
section
variable {w w' : World} {B B' n cap : Nat} {A : Option Addr} {us : List Value} {l : List UInt8}
theorem Rd.keep (h : Rd w B A n cap us) (hk : ∀ p : Addr, p.block < B → w'.cell? p = w.cell? p) : Rd w' B A n cap us :=
  ⟨h.len, h.le, h.fit, h.nil, fun h0 => by
    obtain ⟨b, o, e, hb, hc⟩ := h.at_ h0
    exact ⟨b, o, e, hb, fun i u hu => (hk ⟨b, o + i, none⟩ hb).trans (hc i u hu)⟩⟩
theorem Rd.more (h : Rd w B A n cap us) (hB : B ≤ B') : Rd w B' A n cap us :=
  ⟨h.len, h.le, h.fit, h.nil, fun h0 => by
    obtain ⟨b, o, e, hb, hc⟩ := h.at_ h0
    exact ⟨b, o, e, by omega, hc⟩⟩
theorem Rd.below (h : Rd w B A n cap us) (hb : Below B w w') : Rd w' B A n cap us := h.keep fun p hp => hb.cell hp
theorem Rd.drewN {k : Nat} (h : Rd w B A n cap us) : Rd (w.drewN k) B A n cap us := h.keep (w' := w.drewN k) fun _ _ => rfl
theorem Rd.nilR (w : World) (B : Nat) : Rd w B none 0 0 [] := ⟨rfl, Nat.le_refl _, Nat.zero_le _, fun _ => rfl, fun h => absurd h (by omega)⟩
theorem Rd.ofOwn {base : Nat} {e : TypeId} {c : Nat} (h : w.ownsRow base e 1 (.slice A n c) n us) : Rd w w.heap.size A n c us := by
  obtain ⟨hl, h2 | ⟨g, cap, cur, hv, hg, hh, hn, hc, hs, ht⟩⟩ := h
  · obtain ⟨hv, hn⟩ := h2
    cases hv
    have : us = [] := by simpa using hl
    subst this
    exact Rd.nilR w _
  · cases hv
    refine ⟨by simpa using hl, hn, hc, (fun e => by cases e), fun _ => ⟨g, 0, rfl, lt_of hh, fun i u hu => ?_⟩⟩
    rw [cell_of _ hh, ← hu, ← ht, Nat.zero_add]
    have hi : i < us.length := by
      rcases Nat.lt_or_ge i us.length with h' | h'
      · exact h'
      · simp [List.getElem?_eq_none h'] at hu
    rw [List.getElem?_take_of_lt (by rw [← hl]; exact hi), Array.getElem?_toList]
theorem Rd.take {k : Nat} (h : Rd w B A n cap us) (hk : k ≤ n) : Rd w B A k cap (us.take k) :=
  ⟨by rw [List.length_take, h.len]; omega, by have := h.le; omega, h.fit, h.nil, fun h0 => by
    obtain ⟨b, o, e, hb, hc⟩ := h.at_ h0
    exact ⟨b, o, e, hb, fun i u hu => hc i u (by rw [List.getElem?_take] at hu; split at hu
                                                 · exact hu
                                                 · cases hu)⟩⟩
theorem Byt.length (h : Byt w B A n cap l) : l.length = n := by simpa using h.len
theorem Byt.below (h : Byt w B A n cap l) (hb : Below B w w') : Byt w' B A n cap l := Rd.below h hb
theorem Byt.more (h : Byt w B A n cap l) (hB : B ≤ B') : Byt w B' A n cap l := Rd.more h hB
theorem Byt.drewN {k : Nat} (h : Byt w B A n cap l) : Byt (w.drewN k) B A n cap l := Rd.drewN h
theorem Byt.take {k : Nat} (h : Byt w B A n cap l) (hk : k ≤ n) : Byt w B A k cap (l.take k) := by
  have := Rd.take h hk
  rwa [← List.map_take] at this
theorem Byt.cell {i : Nat} (h : Byt w B A n cap l) (hi : i < n) : ∃ b o c, A = some ⟨b, o, none⟩ ∧ b < B ∧ l[i]? = some c ∧ w.cell? ⟨b, o + i, none⟩ = some (.int .u8 (UInt8.toNat c : Int)) := by
  obtain ⟨b, o, e, hb, hc⟩ := h.at_ (by have := h.le; omega)
  have hl : i < l.length := by rw [h.length]; exact hi
  exact ⟨b, o, l[i], e, hb, List.getElem?_eq_getElem hl, hc i _ (by simp [hl, bv])⟩
theorem Byt.ofRow {z : List Int} (h : IsRow .u8 w A n cap z) : Byt w w.heap.size A n cap ((z.take n).map fun x => UInt8.ofNat x.toNat) := by
  rcases h with ⟨rfl, rfl, rfl, rfl⟩ | ⟨⟨b, o, s⟩, rfl, hl, hm, hz, hc, hwf⟩
  · exact Rd.nilR w _
  · refine ⟨by simp; omega, hl, hm, (fun e => by cases e), fun h0 => ?_⟩
    have h := hc 0 (by omega)
    have hs : s = none := by simpa [Addr.add] using World.cell?_spot h
    subst hs
    refine ⟨b, o, rfl, World.block_lt_of_cell? w _ h, fun i u hu => ?_⟩
    have hi : i < n := by
      rcases Nat.lt_or_ge i n with h' | h'
      · exact h'
      · rw [List.getElem?_eq_none (by simp; omega)] at hu; cases hu
    have hiz : i < z.length := by omega
    have hci := hc i hiz
    have hr := bounds_u8 (hwf z[i] (List.getElem_mem hiz))
    have hu' : u = .int .u8 z[i] := by
      simp only [List.getElem?_map, List.getElem?_take_of_lt hi, List.getElem?_eq_getElem hiz, Option.map_some, Option.some.injEq] at hu
      rw [← hu, bv]
      congr 1
      rw [UInt8.toNat_ofNat_of_lt' (by show z[i].toNat < 256; omega)]
      omega
    rw [hu']
    rw [List.getD_eq_getElem?_getD, List.getElem?_eq_getElem hiz] at hci
    unfold Addr.add at hci
    split at hci
    · rename_i h0; subst h0; exact hci
    · exact hci
/-- The same bytes as a shelf's contract reads them: numbers. -/
def nums (l : List UInt8) : List Int := l.map fun b => (b.toNat : Int)
theorem nums_length (l : List UInt8) : (nums l).length = l.length := by simp [nums]
theorem bytesOf_nums (l : List UInt8) : Lib.bytesOf (nums l) = l := by
  simp only [Lib.bytesOf, nums, List.map_map]
  conv => rhs; rw [← List.map_id l]
  refine List.map_congr_left fun b _ => ?_
  simp
theorem nums_range (l : List UInt8) : ∀ x ∈ nums l, 0 ≤ x ∧ x < 256 := by
  intro x hx
  obtain ⟨b, _, rfl⟩ := List.mem_map.1 hx
  have := b.toNat_lt
  exact ⟨by omega, by omega⟩
theorem Byt.cells (h : Byt w B A n cap l) (h0 : 0 < cap) : ∃ b o, A = some ⟨b, o, none⟩ ∧ ∀ i, i < n → w.cell? ⟨b, o + i, none⟩ = some (.int .u8 ((nums l).getD i 0)) := by
  obtain ⟨b, o, e, hb, hc⟩ := h.at_ h0
  refine ⟨b, o, e, fun i hi => ?_⟩
  have hl : i < l.length := by rw [h.length]; exact hi
  rw [hc i _ (by simp [hl, bv]; rfl)]
  simp [nums, hl]
end
/-- string(b), of bytes that can be read. -/
theorem Byt.str {w : World} {B n cap : Nat} {A : Option Addr} {l : List UInt8} (h : Byt w B A n cap l) : (convert 22 9 (.slice A n cap)).run Tryz.prog w = .ok (.string ⟨l.toArray⟩) w := by
  have hs : strOfNums (nums l) = ⟨l.toArray⟩ := by
    have : (strOfNums (nums l)).data.toList = l := by rw [strOfNums_data]; exact bytesOf_nums l
    refine ByteArray.ext ?_
    show (strOfNums (nums l)).data = l.toArray
    conv => rhs; rw [← this]
  rcases Nat.eq_zero_or_pos cap with h0 | h0
  · have hn := h.le
    obtain rfl : n = 0 := by omega
    obtain rfl : l = [] := List.length_eq_zero_iff.1 h.length
    cases A with
    | none => exact run_convert_bytes_nil w 22 5 Tryz.underlying22 Tryz.underlying5 0 cap 9 Tryz.underlying9
    | some a =>
      rw [run_convert_bytes_string w 22 9 5 _ 0 cap Tryz.underlying22 Tryz.underlying5 Tryz.underlying9]
      have := run_bytesToString (P := Tryz.prog) w a 0 cap [] (by simp [loadCells, loadCellsFrom])
      rw [this]; rfl
  · obtain ⟨b, o, rfl, hc⟩ := h.cells h0
    rw [← hs]
    exact run_convert_bytes_arg w 22 5 Tryz.underlying22 Tryz.underlying5 b o n cap (nums l) (by rw [nums_length, h.length]) hc 9 Tryz.underlying9
/-- A constant's bytes in a block of their own. -/
theorem Byt.const (w : World) (l : List UInt8) (f : Nat × Nat) (hl : l.length ≤ 1000000) : Byt (w.alloc (.cells (l.map bv).toArray 5 f)) (w.heap.size + 1) (some ⟨w.heap.size, 0, none⟩) l.length l.length l :=
  ⟨by simp, Nat.le_refl _, by unfold maxLen; omega, (fun e => by cases e), fun _ => ⟨w.heap.size, 0, rfl, by omega, fun i u hu => by rw [cell_of _ (hp_new _ _), Nat.zero_add, List.getElem?_toArray]; exact hu⟩⟩
theorem Byt.drew {w : World} {B n cap : Nat} {A : Option Addr} {l : List UInt8} (h : Byt w B A n cap l) : Byt w.drew B A n cap l := Rd.keep (w' := w.drew) h fun _ _ => rfl
/-- The address of a slice that begins later. -/
def cutA (A : Option Addr) (cap s : Nat) : Option Addr := if cap = s then A else A.map (·.add s)
theorem addr_add (b o s : Nat) : (⟨b, o, none⟩ : Addr).add s = ⟨b, o + s, none⟩ := by
  unfold Addr.add
  split
  · rename_i h; subst h; rfl
  · rfl
theorem Rd.drop {w : World} {B n cap : Nat} {A : Option Addr} {us : List Value} {k : Nat} (h : Rd w B A n cap us) (hk : k ≤ n) : Rd w B (cutA A cap k) (n - k) (cap - k) (us.drop k) := by
  refine ⟨by rw [List.length_drop, h.len], by have := h.le; omega, by have := h.fit; omega, fun e => ?_, fun h0 => ?_⟩
  · unfold cutA at e
    split at e
    · omega
    · have : A = none := by cases A with
        | none => rfl
        | some a => simp at e
      have := h.nil this
      omega
  · obtain ⟨b, o, rfl, hb, hc⟩ := h.at_ (by omega)
    unfold cutA
    rw [if_neg (by omega), Option.map_some, addr_add]
    exact ⟨b, o + k, rfl, hb, fun i u hu => by rw [Nat.add_assoc]; exact hc (k + i) u (by rw [← hu, List.getElem?_drop])⟩
theorem Byt.drop {w : World} {B n cap : Nat} {A : Option Addr} {l : List UInt8} {k : Nat} (h : Byt w B A n cap l) (hk : k ≤ n) : Byt w B (cutA A cap k) (n - k) (cap - k) (l.drop k) := by
  have := Rd.drop h hk
  rwa [← List.map_drop] at this
theorem size_u8 (w : World) : (sizeOf (Tryz.prog.elem 22)).run Tryz.prog w = .ok 1 w := by kernel_rfl
/-- 'b[s:]' of bytes, the address under one name. -/
theorem run_from {w : World} (A : Option Addr) (n cap s : Nat) (h : s ≤ n) : (Instr.slice 22 (.slice A n cap) (some (.int .i64 (s : Int))) none none).run Tryz.prog w = .ok (.slice (cutA A cap s) (n - s) (cap - s)) w := by
  rw [run_slice_l (P := Tryz.prog) (w := w) 22 A n cap (by kernel_rfl) .i64 s (by omega) (by omega), size_u8]
  simp [sliced, cutA]
/-- 'b[s:t]' of bytes. -/
theorem run_fromTo {w : World} (A : Option Addr) (n cap s t : Nat) (h : s ≤ t) (ht : t ≤ cap) : (Instr.slice 22 (.slice A n cap) (some (.int .i64 (s : Int))) (some (.int .i64 (t : Int))) none).run Tryz.prog w = .ok (.slice (cutA A cap s) (t - s) (cap - s)) w := by
  rw [run_slice_lh (P := Tryz.prog) (w := w) 22 A n cap (by kernel_rfl) .i64 .i64 s t (by omega) (by omega) (by omega), size_u8]
  simp [sliced, cutA]
end Go.Proofs.YtmclngahdklfkaaGreatDoor
/- Plain facts on characters as bytes. -/
namespace Go.Proofs.YtmclngahdklfkaaGreatDoor
open Go.ChangeShapes Go.WideShapes Go.ChangeAt Go.RowKit
set_option linter.unusedVariables false
theorem snoc_induction {P : List UInt8 → Prop} (h0 : P []) (h1 : ∀ l x, P l → P (l ++ [x])) : ∀ l, P l := by
  intro l
  have : ∀ r : List UInt8, P r.reverse := by
    intro r
    induction r with
    | nil => exact h0
    | cons x r ih => rw [List.reverse_cons]; exact h1 _ _ ih
  simpa using this l.reverse
theorem take_snoc (l : List UInt8) (k : Nat) (c : UInt8) (h : l[k]? = some c) : l.take (k + 1) = l.take k ++ [c] := by
  rw [List.take_add_one, h]; rfl
theorem toNat_eq (c d : UInt8) : ((c.toNat : Int) == (d.toNat : Int)) = decide (c = d) := by
  by_cases h : c = d
  · simp [h]
  · have : ¬ c.toNat = d.toNat := fun e => h (UInt8.toNat_inj.1 e)
    simp [h]; omega
/-- A character's number. -/
def isR (r : Int) : Bool := decide (0 ≤ r) && decide (r ≤ 1114111) && (decide (r < 55296) || decide (57343 < r))
/-- How many bytes a character has, by the first one; 0: it is none. -/
def lenB (c : Nat) : Nat := if c < 128 then 1 else if c < 192 then 0 else if c < 224 then 2 else if c < 240 then 3 else if c < 248 then 4 else 0
def msk (n c : Nat) : Nat := if n = 1 then c % 128 else if n = 2 then c % 32 else if n = 3 then c % 16 else c % 8
def least (n : Nat) : Nat := if n = 1 then 0 else if n = 2 then 128 else if n = 3 then 2048 else 65536
/-- What follows on a first byte. -/
def cont (r : Nat) : List UInt8 → Option Nat
  | [] => some r
  | c :: t => if 128 ≤ c.toNat ∧ c.toNat < 192 then cont (r * 64 + (c.toNat - 128)) t else none
/-- The character that bytes begin with, and how many of them it has. -/
def dec : List UInt8 → Option (Nat × Nat)
  | [] => none
  | c :: t => if lenB c.toNat = 0 ∨ t.length + 1 < lenB c.toNat then none else
    match cont (msk (lenB c.toNat) c.toNat) (t.take (lenB c.toNat - 1)) with
    | some r => if least (lenB c.toNat) ≤ r ∧ isR r = true then some (r, lenB c.toNat) else none
    | none => none
theorem lenB_le (c : Nat) : lenB c ≤ 4 := by unfold lenB; repeat' split <;> try omega
theorem dec_le (l : List UInt8) (r n : Nat) (h : dec l = some (r, n)) : 1 ≤ n ∧ n ≤ 4 ∧ n ≤ l.length ∧ r ≤ 1114111 := by
  cases l with
  | nil => simp [dec] at h
  | cons c t =>
    have h4 := lenB_le c.toNat
    simp only [dec] at h
    split at h
    · cases h
    · rename_i hn
      split at h
      · rename_i q hq
        split at h
        · rename_i hr
          simp only [Option.some.injEq, Prod.mk.injEq] at h
          obtain ⟨rfl, rfl⟩ := h
          simp only [not_or] at hn
          refine ⟨by omega, h4, by simp; omega, ?_⟩
          have := hr.2
          simp [isR] at this
          omega
        · cases h
      · cases h
end Go.Proofs.YtmclngahdklfkaaGreatDoor
/- Strings: pieces; narthexref06.Digits. -/
namespace Go.Proofs.YtmclngahdklfkaaGreatDoor
open Go.ChangeShapes Go.WideShapes Go.ChangeAt Go.RowKit
set_option linter.unusedVariables false
/-- 's[k]' of a string. -/
theorem run_strIndex (l : List UInt8) (k : Nat) (hk : k < l.length) (w : World) :
    (Instr.index 9 (.string ⟨l.toArray⟩) (.int .i64 (k : Int))).run Tryz.prog w = .ok (.int .u8 (UInt8.toNat (l.getD k 0) : Int)) w := by
  have hsz : (⟨l.toArray⟩ : ByteArray).size = l.length := by simp [ByteArray.size]
  have hb : ((⟨l.toArray⟩ : ByteArray)[k]'(by rw [hsz]; exact hk)) = l.getD k 0 := by
    simp [ByteArray.getElem_eq_getElem_data, hk]
  rw [run_index_string (P := Tryz.prog) w 9 ⟨l.toArray⟩ .i64 (k : Int) Tryz.underlying9, dif_pos ⟨by omega, by rw [hsz]; omega⟩]
  simp only [Int.toNat_natCast, hb]
theorem run_sop {w : World} (a b : List UInt8) (h : a.length + b.length ≤ 9223372036854775807) : (Op.stringOp .add ⟨a.toArray⟩ ⟨b.toArray⟩).run Tryz.prog w = .ok (.string ⟨(a ++ b).toArray⟩) w := by
  rw [run_string_add_sum w _ _ (by simp [ByteArray.size]; omega), ByteArray.mk_append_mk]
end Go.Proofs.YtmclngahdklfkaaGreatDoor
/- bytes.HasPrefix. -/
namespace Go.Proofs.YtmclngahdklfkaaGreatDoor
open Go.ChangeShapes Go.WideShapes Go.ChangeAt Go.RowKit
set_option linter.unusedVariables false
theorem Byt.bytesIn {w : World} {B n cap : Nat} {A : Option Addr} {l : List UInt8} (h : Byt w B A n cap l) : Lib.BytesIn w A n (nums l) := fun hn => by
  obtain ⟨b, o, e, hc⟩ := h.cells (by have := h.le; omega)
  exact ⟨b, o, e, hc⟩
theorem hasPrefix_c (A1 A2 : Option Addr) (n1 c1 n2 c2 : Nat) (l1 l2 : List UInt8) (w : World) (B1 B2 : Nat) (h1 : Byt w B1 A1 n1 c1 l1) (h2 : Byt w B2 A2 n2 c2 l2) :
    Calls Tryz.prog 60 #[.slice A1 n1 c1, .slice A2 n2 c2] w fun e w' => e = .returned (.bool (l2.isPrefixOf l1)) ∧ w = w' := by
  refine (Tryz.bytes_HasPrefix_all A1 A2 n1 c1 n2 c2 (nums l1) (nums l2) w (by rw [nums_length, h1.length]) (by rw [nums_length, h2.length]) h1.le h1.bytesIn h2.bytesIn).mono fun e w' ⟨he, hw⟩ => ⟨?_, hw.symm⟩
  rw [he, bytesOf_nums, bytesOf_nums]
  rfl
end Go.Proofs.YtmclngahdklfkaaGreatDoor
/- Bytes of a string, of a constant. -/
namespace Go.Proofs.YtmclngahdklfkaaGreatDoor
open Go.ChangeShapes Go.WideShapes Go.ChangeAt Go.RowKit
set_option linter.unusedVariables false
theorem byt_new (w : World) (l : List UInt8) (hl : l.length ≤ 1000000) : Byt (Lib.bytesWorld w 5 ⟨l.toArray⟩) (w.heap.size + 1) (some ⟨w.heap.size, 0, none⟩) l.length (grownCap w l.length 0 5) l := by
  have hsz : (⟨l.toArray⟩ : ByteArray).size = l.length := by simp [ByteArray.size]
  refine ⟨by simp, grownCap_ge _ _ _ _, grownCap_le_maxLen _ _ _ _ (by unfold maxLen; omega), (fun e => by cases e), fun _ => ⟨_, _, rfl, by omega, fun i u hu => ?_⟩⟩
  have hi : i < l.length := by
    rcases Nat.lt_or_ge i l.length with h' | h'
    · exact h'
    · rw [List.getElem?_eq_none (by simpa using h')] at hu; cases hu
  rw [Nat.zero_add, Lib.bytesWorld_cell _ _ _ _ (by rw [hsz]; exact hi)]
  rw [List.getElem?_map, List.getElem?_eq_getElem hi] at hu
  simp only [Option.map_some, Option.some.injEq] at hu
  rw [← hu]
  simp [bv, hi]
theorem run_toBytes (w : World) (l : List UInt8) : (convert 9 22 (.string ⟨l.toArray⟩)).run Tryz.prog w = .ok (.slice (some ⟨w.heap.size, 0, none⟩) l.length (grownCap w l.length 0 5)) (Lib.bytesWorld w 5 ⟨l.toArray⟩) := by
  have hsz : (⟨l.toArray⟩ : ByteArray).size = l.length := by simp [ByteArray.size]
  have := Lib.run_convert_string_bytes (P := Tryz.prog) w 9 22 5 ⟨l.toArray⟩ Tryz.underlying9 Tryz.underlying22 Tryz.underlying5
  rwa [hsz] at this
theorem run_upTo {w : World} (A : Option Addr) (n cap t : Nat) (ht : t ≤ cap) : (Instr.slice 22 (.slice A n cap) none (some (.int .i64 (t : Int))) none).run Tryz.prog w = .ok (.slice A t cap) w := by
  rw [run_slice_h (P := Tryz.prog) (w := w) 22 A n cap (by kernel_rfl) .i64 (t : Int) (by omega) (by omega), size_u8]
  simp [sliced]
  intro _
  cases A with
  | none => rfl
  | some a => simp [Addr.add]
theorem alloc_const (w : World) (l : List UInt8) (f : Nat × Nat) (hl : l.length ≤ 1000000) : Below w.heap.size w (w.alloc (.cells (l.map bv).toArray 5 f)) ∧ Byt (w.alloc (.cells (l.map bv).toArray 5 f)) (w.heap.size + 1) (some ⟨w.heap.size, 0, none⟩) l.length l.length l :=
  ⟨(Below.refl _ _).alloc (Nat.le_refl _) _, Byt.const w l f hl⟩
end Go.Proofs.YtmclngahdklfkaaGreatDoor

/- Go's library, by its contracts off the shelf, in this seat's words. -/
namespace Go.Proofs.YtmclngahdklfkaaGreatDoor
open Go.ChangeShapes Go.WideShapes Go.ChangeAt Go.RowKit
set_option linter.unusedVariables false
/-- What internal/bytealg.MaxLen holds: some number. -/
def MaxL (w : World) : Prop := ∃ m : Int, w.cell? ⟨1, 0, none⟩ = some (.int .i64 m)
theorem MaxL.lt {w : World} (h : MaxL w) : 1 < w.heap.size := by
  obtain ⟨m, hm⟩ := h
  exact World.block_lt_of_cell? w _ hm
theorem MaxL.below {w w' : World} {B : Nat} (h : MaxL w) (hb : Below B w w') (hB : 1 < B) : MaxL w' := by
  obtain ⟨m, hm⟩ := h
  exact ⟨m, by rw [hb.cell hB]; exact hm⟩
theorem MaxL.drewN {w : World} (h : MaxL w) (n : Nat) : MaxL (w.drewN n) := h
theorem lib_hasPrefix (a b : List UInt8) : Lib.hasPrefix a b = b.isPrefixOf a := rfl
/-- bytes.CutPrefix: the prefix stands there. -/
theorem cutPrefix_yes (A1 A2 : Option Addr) (n1 c1 n2 c2 : Nat) (l1 l2 : List UInt8) (w : World) (B1 B2 : Nat) (h1 : Byt w B1 A1 n1 c1 l1) (h2 : Byt w B2 A2 n2 c2 l2) (hn : 0 < n2) (hp : l2.isPrefixOf l1 = true) :
    Calls Tryz.prog 126 #[.slice A1 n1 c1, .slice A2 n2 c2] w fun e w' => e = .returned (.tuple #[.slice (cutA A1 c1 n2) (n1 - n2) (c1 - n2), .bool true]) ∧ w = w' := by
  refine (Tryz.bytes_CutPrefix_all A1 A2 n1 c1 n2 c2 (nums l1) (nums l2) w (by rw [nums_length, h1.length]) (by rw [nums_length, h2.length]) h1.le h1.bytesIn h2.bytesIn).mono fun e w' ⟨he, hw⟩ => ⟨?_, hw.symm⟩
  have hln : n2 ≤ n1 := by
    have := (List.isPrefixOf_iff_prefix.1 hp).length_le
    rw [h1.length, h2.length] at this
    exact this
  obtain ⟨b, o, rfl, _⟩ := h1.at_ (by have := h1.le; omega)
  rw [he, bytesOf_nums, bytesOf_nums, lib_hasPrefix, hp]
  congr 3
  have key : Lib.trimPrefixV (some ⟨b, o, none⟩) n1 c1 (nums l1) (nums l2) = Lib.bytesTrimPrefix b o n1 c1 (nums l1) (nums l2) := by
    cases hy : nums l2 with
    | nil =>
      have : (nums l2).length = 0 := by rw [hy]; rfl
      rw [nums_length, h2.length] at this
      omega
    | cons y ys => rfl
  rw [key]
  unfold Lib.bytesTrimPrefix
  rw [bytesOf_nums, bytesOf_nums, lib_hasPrefix, hp, if_pos rfl, nums_length, h2.length]
  unfold Lib.sliceFrom cutA
  rw [Option.map_some, addr_add]
/-- .. it does not. -/
theorem cutPrefix_no (A1 A2 : Option Addr) (n1 c1 n2 c2 : Nat) (l1 l2 : List UInt8) (w : World) (B1 B2 : Nat) (h1 : Byt w B1 A1 n1 c1 l1) (h2 : Byt w B2 A2 n2 c2 l2) (hp : l2.isPrefixOf l1 = false) :
    Calls Tryz.prog 126 #[.slice A1 n1 c1, .slice A2 n2 c2] w fun e w' => e = .returned (.tuple #[.slice A1 n1 c1, .bool false]) ∧ w = w' := by
  refine (Tryz.bytes_CutPrefix_all A1 A2 n1 c1 n2 c2 (nums l1) (nums l2) w (by rw [nums_length, h1.length]) (by rw [nums_length, h2.length]) h1.le h1.bytesIn h2.bytesIn).mono fun e w' ⟨he, hw⟩ => ⟨?_, hw.symm⟩
  rw [he, bytesOf_nums, bytesOf_nums, lib_hasPrefix, hp]
  congr 3
  unfold Lib.trimPrefixV
  split <;> simp [Lib.bytesTrimPrefix, bytesOf_nums, lib_hasPrefix, hp]
/-- bytes.Index. -/
theorem bindex_c (A1 A2 : Option Addr) (n1 c1 n2 c2 : Nat) (l1 l2 : List UInt8) (w : World) (B1 B2 : Nat) (h1 : Byt w B1 A1 n1 c1 l1) (h2 : Byt w B2 A2 n2 c2 l2) (hM : MaxL w) (hn : 0 < n2) (hm1 : n1 ≤ 1000000) (hm2 : n2 ≤ 1000000) :
    Calls Tryz.prog 96 #[.slice A1 n1 c1, .slice A2 n2 c2] w fun e w' => e = .returned (.int .i64 (Lib.index l1 l2)) ∧ ∃ q, w' = w.drewN q := by
  obtain ⟨b2, o2, rfl, _, hc2⟩ := h2.at_ (by have := h2.le; omega)
  have hc2' : ∀ i, i < n2 → w.cell? ((⟨b2, o2, none⟩ : Addr).add i) = some (.int .u8 ((nums l2).getD i 0)) := by
    obtain ⟨b, o, e, hc⟩ := h2.cells (by have := h2.le; omega)
    cases e
    intro i hi
    rw [addr_add]
    exact hc i hi
  cases A1 with
  | none =>
    have h0 := h1.nil rfl
    subst h0
    have h00 : n1 = 0 := by have := h1.le; omega
    subst h00
    have hl : l1 = [] := List.length_eq_zero_iff.1 h1.length
    subst hl
    refine (Tryz.bytes_Index_nil _ n2 c2 w (by omega) (fun e1 => ⟨b2, o2, _, rfl, by have := hc2' 0 hn; rwa [addr_add] at this⟩)).mono fun e w' ⟨he, hw⟩ => ⟨?_, 0, hw⟩
    rw [he, if_neg (by omega)]
    have hl2 : l2 ≠ [] := by intro e; subst e; have := h2.length; simp at this; omega
    cases l2 with
    | nil => exact absurd rfl hl2
    | cons a t => rfl
  | some a =>
    obtain ⟨m, hm⟩ := hM
    have hc1' : ∀ i, i < n1 → w.cell? (a.add i) = some (.int .u8 ((nums l1).getD i 0)) := by
      intro i hi
      obtain ⟨b, o, e, hc⟩ := h1.cells (by have := h1.le; omega)
      cases e
      rw [addr_add]
      exact hc i hi
    refine (Tryz.bytes_Index_at a ⟨b2, o2, none⟩ n1 c1 n2 c2 (nums l1) (nums l2) m w (by rw [nums_length, h1.length]) (by rw [nums_length, h2.length]) (nums_range l1) (nums_range l2) hc1' hc2' h1.le (by omega) (by omega) hm).mono fun e w' ⟨he, hw⟩ => ⟨?_, hw⟩
    rw [he, bytesOf_nums, bytesOf_nums]
/-- strings.Contains. -/
theorem contains_c (l1 l2 : List UInt8) (w : World) (hM : MaxL w) (hm1 : l1.length ≤ 1000000) :
    Calls Tryz.prog 45 #[.string ⟨l1.toArray⟩, .string ⟨l2.toArray⟩] w fun e w' => e = .returned (.bool (Lib.contains l1 l2)) ∧ w = w' := by
  obtain ⟨m, hm⟩ := hM
  exact (Tryz.strings_Contains ⟨l1.toArray⟩ ⟨l2.toArray⟩ m w (by simp [ByteArray.size]; omega) hm).mono fun e w' ⟨he, hw⟩ => ⟨he, hw.symm⟩
end Go.Proofs.YtmclngahdklfkaaGreatDoor
/- The first byte of a character, and whether a number is one: the walks. -/
namespace Go.Proofs.YtmclngahdklfkaaGreatDoor
open Go.ChangeShapes Go.WideShapes Go.ChangeAt Go.RowKit
set_option linter.unusedVariables false
theorem length_c (c : UInt8) (w : World) : Calls Tryz.prog 171 #[.int .u8 c.toNat] w fun e w' => e = .returned (.int .i64 (lenB c.toNat)) ∧ w = w' := by
  have hc := c.toNat_lt
  generalize c.toNat = x at *
  unfold lenB
  by_cases h1 : x < 128
  · have h1' : (x : Int) < 128 := by omega
    rw [if_pos h1]
    go_enter Tryz.func171, Tryz.ntmps171
    go_wp2
    go_ret
    exact ⟨rfl, rfl⟩
  · have h1' : ¬ (x : Int) < 128 := by omega
    rw [if_neg h1]
    by_cases h2 : x < 192
    · have h2' : (x : Int) < 192 := by omega
      rw [if_pos h2]
      go_enter Tryz.func171, Tryz.ntmps171
      go_wp2
      go_ret
      exact ⟨rfl, rfl⟩
    · have h2' : ¬ (x : Int) < 192 := by omega
      rw [if_neg h2]
      by_cases h3 : x < 224
      · have h3' : (x : Int) < 224 := by omega
        rw [if_pos h3]
        go_enter Tryz.func171, Tryz.ntmps171
        go_wp2
        go_ret
        exact ⟨rfl, rfl⟩
      · have h3' : ¬ (x : Int) < 224 := by omega
        rw [if_neg h3]
        by_cases h4 : x < 240
        · have h4' : (x : Int) < 240 := by omega
          rw [if_pos h4]
          go_enter Tryz.func171, Tryz.ntmps171
          go_wp2
          go_ret
          exact ⟨rfl, rfl⟩
        · have h4' : ¬ (x : Int) < 240 := by omega
          rw [if_neg h4]
          by_cases h5 : x < 248
          · have h5' : (x : Int) < 248 := by omega
            rw [if_pos h5]
            go_enter Tryz.func171, Tryz.ntmps171
            go_wp2
            go_ret
            exact ⟨rfl, rfl⟩
          · have h5' : ¬ (x : Int) < 248 := by omega
            rw [if_neg h5]
            go_enter Tryz.func171, Tryz.ntmps171
            go_wp2
            go_ret
            exact ⟨rfl, rfl⟩

theorem utfIs_c (r : Int) (w : World) : Calls Tryz.prog 172 #[.int .i64 r] w fun e w' => e = .returned (.bool (isR r)) ∧ w = w' := by
  have hf : isR r = true ∨ isR r = false := by cases isR r <;> simp
  by_cases h0 : 0 ≤ r
  · by_cases h1 : r ≤ 1114111
    · by_cases h2 : r < 55296
      · have e : isR r = true := by simp [isR, h0, h1, h2]
        rw [e]
        clear hf e
        go_enter Tryz.func172, Tryz.ntmps172
        go_wp2
        go_ret
        exact ⟨rfl, rfl⟩
      · by_cases h3 : 57343 < r
        · have e : isR r = true := by simp [isR, h0, h1, h3]
          rw [e]
          clear hf e
          go_enter Tryz.func172, Tryz.ntmps172
          go_wp2
          go_ret
          exact ⟨rfl, rfl⟩
        · have e : isR r = false := by simp [isR, h2, h3]
          rw [e]
          clear hf e
          have h3' : r ≤ 57343 := by omega
          have h2' : 55296 ≤ r := by omega
          go_enter Tryz.func172, Tryz.ntmps172
          go_wp2
          go_ret
          exact ⟨rfl, rfl⟩
    · have e : isR r = false := by simp [isR, h1]
      rw [e]
      clear hf e
      have h1' : 1114111 < r := by omega
      have hd1 : decide (r ≤ 1114111) = false := by simp; omega
      have hd0 : decide (0 ≤ r) = true := by simpa using h0
      go_enter Tryz.func172, Tryz.ntmps172
      go_wp2
      go_ret
      exact ⟨rfl, rfl⟩
  · have e : isR r = false := by simp [isR, h0]
    rw [e]
    clear hf e
    have hd0 : decide (0 ≤ r) = false := by simpa using h0
    have h0' : r < 0 := by omega
    go_enter Tryz.func172, Tryz.ntmps172
    go_wp2
    go_ret
    exact ⟨rfl, rfl⟩
end Go.Proofs.YtmclngahdklfkaaGreatDoor
