/- Texts of ours, joined: Shelf, Base, CharPlain, Str, Build, Esc, MiscP, Tag0. -/
import Derived.Shelf.Strings.Builder1
import Derived.Shelf.Strings.Builder2
import Derived.Shelf.Small.Utf8
import Derived.Shelf.Strings.BuilderF
import Derived.Shelf.Strings.BuilderK
import Derived.Shelf.Strconv.Atoi
import Derived.Shelf.Strconv.Itoa0
import Derived.Shelf.Strconv.Itoa1
import Derived.Shelf.LaysM
import Derived.Shelf.Strconv.Itoa2
import Derived.Shelf.Strconv.Itoa3
import Derived.Shelf.Bytes.Len
import Derived.Shelf.Bytes.TryGrow
import Derived.Shelf.Bytes.GrowSliceCatch
import Derived.Shelf.Bytes.GrowSlice
import Derived.Shelf.Bytes.GrowRow0
import Derived.Shelf.Bytes.GrowRow
import Derived.Shelf.Bytes.GrowNil
import Derived.Shelf.Bytes.Grow
import Derived.Shelf.Bytes.WriteString
import Derived.Shelf.Bytes.Reset
import Derived.Shelf.Bytes.Bytes
import Derived.Shelf.Strconv.AtoiErrFast
import Derived.Shelf.Strconv.ParseIntEmpty
import Derived.Shelf.Strconv.AtoiFail
import Derived.Shelf.Strconv.Clone
import Derived.Shelf.Strconv.SyntaxError
import Derived.Shelf.LaysC
import Derived.Shelf.Strconv.ToError
import Derived.Shelf.Strconv.AtoiErr
import Derived.Shelf.Strconv.ErrVar
import Derived.Shelf.Strconv.Lower
import Derived.Shelf.Strconv.ParseUint10
import Derived.Shelf.Strconv.ParseUint10Empty
import Derived.Shelf.Strconv.ParseUint10Any
import Derived.Shelf.Strconv.ParseInt10
import Derived.Shelf.Strconv.AtoiLong
import Derived.Shelf.Strconv.AtoiInnerAll
import Derived.Shelf.Strconv.RangeError
import Derived.Shelf.Strconv.ToErrorRange
import Derived.Shelf.Strconv.AtoiAll
import Derived.Shelf.Strconv.ErrVarAll
import Derived.Shelf.Strconv.ParseUintEmpty
import Derived.Shelf.Strconv.ParseUint10b64
import Derived.Shelf.Strconv.ParseUint10b32
import Derived.Shelf.Strconv.ParseUint10b16
import Derived.Shelf.Strconv.ParseUint10b8
import Derived.Shelf.Strconv.ParseUint10At
import Derived.Shelf.Strconv.ParseInt10At64
import Derived.Shelf.Strconv.ParseInt10At32
import Derived.Shelf.Strconv.ParseInt10At16
import Derived.Shelf.Strconv.ParseInt10At8
import Derived.Shelf.Strconv.ParseInt10All
import Derived.Shelf.Strings.Search1
import Derived.Shelf.Bytes.GrowRow0Kept
import Derived.Shelf.Strings.Search2
import Derived.Shelf.Bytes.GrowRowKept
import Derived.Shelf.Strings.Search3
import Derived.Shelf.Bytes.GrowNilKept
import Derived.Shelf.Strings.Cut
import Derived.Shelf.Bytes.GrowKept
import Derived.Shelf.Strings.Count
import Derived.Shelf.Strings.Shaped
import Derived.Shelf.Bytes.WriteStringKept
import Derived.Shelf.Bytes.ResetKept
import Derived.Shelf.Bytes.BufferK
import Derived.Shelf.Bytes.GrowRow0Own
import Derived.Shelf.Bytes.GrowRowOwn
import Derived.Shelf.Bytes.GrowNilOwn
import Derived.Shelf.Bytes.GrowOwn
import Derived.Shelf.Bytes.LenAt
import Derived.Shelf.Bytes.TryGrowAt
import Derived.Shelf.Bytes.GrowRow0At
import Derived.Shelf.Bytes.GrowRowAt
import Derived.Shelf.Bytes.GrowNilAt
import Derived.Shelf.Bytes.GrowAt
import Derived.Shelf.Bytes.WriteStringAt
import Derived.Shelf.Strings.Prefix
import Derived.Shelf.Strings.Split
import Derived.Shelf.Strings.Fold
import Derived.Shelf.Unicode.Decode
import Derived.Shelf.Strings.RuneCount
import Derived.Shelf.Unicode.DecodeSlow
import Derived.Shelf.Unicode.DecodeAny
import Derived.Shelf.Unicode.CaseLookup
import Derived.Shelf.Unicode.CaseConvert
import Derived.Shelf.Slices.Turned
import Derived.Shelf.Slices.Equal
import Derived.Ground.Names2Prog
import Derived.Shelf.Slices.Clone
import Derived.Shelf.Bytes.SlIndexAt
import Derived.Shelf.Slices.Empties2
import Derived.Shelf.Bytes.SlSearch0
import Derived.Shelf.Bytes.SlSmallAll
import Derived.Shelf.Bytes.SlEqualAll
import Derived.Shelf.Bytes.Small
import Derived.Shelf.Bytes.IndexByte
import Derived.Test.YthihkbcdihochaaGreatDoorProg
import Derived.Test.YthihkbcdihochaaGreatDoorRows
import Derived.WalkKit
import Derived.ProofKit
import Derived.OpenShut
import Derived.ShutString
import Derived.ChangeOld
import Derived.Below
import Derived.BigQuiet
import Derived.Deep.QuietTactic
import Derived.Lib.Hide
import Derived.Deep.RegionHeld3
import Derived.Lib.SlBytesConst
import Derived.Laws.CopyOwn
import Derived.Laws.CopyRow
import Derived.Lib.Bytes
import Derived.Deep.LoopGhost
import Derived.Deep.DeepFit
import Derived.Deep.DeepMust
import Derived.WalkSpells
import Derived.WalkLawsBesides
import Derived.Lib.ItoaNum
import Derived.Laws.EntriesVeiled
import Derived.Laws.Rows
import Derived.Lib.Builder
import Derived.Lib.AppendStr
import Derived.Lib.UnsafeStr
import Derived.Laws.Externs
import Derived.Lib.ConvBytes
import Derived.Lib.AtoiErrMem
import Derived.Lib.IndexMore
import Derived.Lib.IndexLaws
/-
  DERIVED: THE SHELF's CONTRACTS AT THIS DUMP, IN PLAIN WORDS (tools/lay-plain.mjs out of 'TryzShelf.lean', which tools/lay-shelf.mjs wrote): THE SAME DECLARATIONS UNDER THE SAME NAMES: 'import', 'namespace', 'open', 'def', 'theorem' AND NOTHING ELSE: no command of the shelf's: FOR A HAND-IN. Each laying: the table of numbers ('.._ren') and one theorem, a field a fact of the dump's own or the kernel's comparison; each contract: ONE APPLICATION.
-/
namespace Go.Proofs
open Go.Shelf
def Tryz.lays169_ren : Go.Shelf.Ren := ⟨fun | 169 => 46 | n => n, fun | 70 => 98 | 9 => 9 | 0 => 0 | 72 => 100 | 37 => 50 | 127 => 185 | 3 => 3 | 5 => 5 | n => n, fun | n => n⟩
theorem Tryz.lays169 : Go.Proofs.Lays.n169 Tryz.prog Tryz.lays169_ren := {
  mixed := by kernel_rfl
  f169 := Tryz.func46.trans (congrArg some (by kernel_rfl))
  t0 := Tryz.underlying0
  a0 := Tryz.isAgg0
  z0 := Tryz.sizeOf0
  v0 := Tryz.zeroValue0
  t3 := Tryz.underlying3
  a3 := Tryz.isAgg3
  z3 := Tryz.sizeOf3
  v3 := Tryz.zeroValue3
  t9 := Tryz.underlying9
  a9 := Tryz.isAgg9
  z9 := Tryz.sizeOf9
  v9 := Tryz.zeroValue9
  t37 := Tryz.underlying50
  a37 := Tryz.isAgg50
  z37 := Tryz.sizeOf50
  v37 := Tryz.zeroValue50
  t70 := Tryz.underlying98
  a70 := Tryz.isAgg98
  z70 := Tryz.sizeOf98
  v70 := Tryz.zeroValue98
  t72 := Tryz.underlying100
  a72 := Tryz.isAgg100
  z72 := Tryz.sizeOf100
  v72 := Tryz.zeroValue100
  t127 := Tryz.underlying185
  a127 := Tryz.isAgg185
  z127 := Tryz.sizeOf185
  v127 := Tryz.zeroValue185 }
theorem Tryz.Builder_Extra_169 : Builder.Extra Tryz.prog Tryz.lays169_ren := {
  sizeBuilder := by kernel_rfl
  liesBuilder := by kernel_rfl
  t5 := Tryz.underlying5
  a5 := Tryz.isAgg5
  z5 := Tryz.sizeOf5
  v5 := Tryz.zeroValue5
  infoByte := by kernel_rfl
  cellsByte := by kernel_rfl
  sizeByte := by kernel_rfl
  neB5 := by decide }
open Go.RowKit in
/-- (*strings.Builder).String: "String returns the accumulated string.": WHATEVER THE BUILDER HOLDS. (LAID: no walk: one application.) -/
theorem Tryz.Builder_String_any (B b : Nat) (l : List UInt8) (w : World) (h : Lib.IsBuilder 100 5 B b (Lib.byteCells l) w) (hBw : B ≤ w.heap.size) :
    Calls Tryz.prog 46 #[.pointer (some ⟨b, 0, none⟩)] w fun e w' => e = .returned (.string ⟨l.toArray⟩) ∧ Below B w w' := Any.Builder_String_any Tryz.lays169 Tryz.Builder_Extra_169 B b l w h hBw
def Tryz.laysM171_ren : Go.Shelf.Ren := ⟨fun | 171 => 79 | 243 => 128 | 246 => 167 | 283 => 193 | 284 => 194 | 285 => 195 | 286 => 196 | 129 => 222 | 317 => 221 | 318 => 223 | 319 => 224 | 320 => 225 | 337 => 250 | 338 => 251 | n => n, fun | 3 => 3 | 9 => 9 | 2 => 2 | 4 => 4 | 171 => 276 | 0 => 0 | 53 => 277 | 37 => 50 | 5 => 5 | 173 => 280 | 212 => 298 | 51 => 299 | 20 => 20 | 213 => 300 | 46 => 254 | 232 => 335 | 233 => 336 | n => n, fun | 17 => 4 | 18 => 10 | 19 => 11 | n => n⟩
theorem Tryz.laysM171 : Go.Proofs.LaysM.n171 Tryz.prog Tryz.laysM171_ren := {
  mixed := by kernel_rfl
  f129 := Tryz.func222.trans (congrArg some (by kernel_rfl))
  f171 := Tryz.func79.trans (congrArg some (by kernel_rfl))
  f243 := Tryz.func128.trans (congrArg some (by kernel_rfl))
  f246 := Tryz.func167.trans (congrArg some (by kernel_rfl))
  f283 := Tryz.func193.trans (congrArg some (by kernel_rfl))
  f284 := Tryz.func194.trans (congrArg some (by kernel_rfl))
  f285 := Tryz.func195.trans (congrArg some (by kernel_rfl))
  f286 := Tryz.func196.trans (congrArg some (by kernel_rfl))
  f317 := Tryz.func221.trans (congrArg some (by kernel_rfl))
  f318 := Tryz.func223.trans (congrArg some (by kernel_rfl))
  f319 := Tryz.func224.trans (congrArg some (by kernel_rfl))
  f320 := Tryz.func225.trans (congrArg some (by kernel_rfl))
  f337 := Tryz.func250.trans (congrArg some (by kernel_rfl))
  f338 := Tryz.func251.trans (congrArg some (by kernel_rfl))
  t0 := Tryz.underlying0
  a0 := Tryz.isAgg0
  z0 := Tryz.sizeOf0
  v0 := Tryz.zeroValue0
  t2 := Tryz.underlying2
  a2 := Tryz.isAgg2
  z2 := Tryz.sizeOf2
  v2 := Tryz.zeroValue2
  t3 := Tryz.underlying3
  a3 := Tryz.isAgg3
  z3 := Tryz.sizeOf3
  v3 := Tryz.zeroValue3
  t4 := Tryz.underlying4
  a4 := Tryz.isAgg4
  z4 := Tryz.sizeOf4
  v4 := Tryz.zeroValue4
  t5 := Tryz.underlying5
  a5 := Tryz.isAgg5
  z5 := Tryz.sizeOf5
  v5 := Tryz.zeroValue5
  t9 := Tryz.underlying9
  a9 := Tryz.isAgg9
  z9 := Tryz.sizeOf9
  v9 := Tryz.zeroValue9
  t20 := Tryz.underlying20
  a20 := Tryz.isAgg20
  z20 := Tryz.sizeOf20
  v20 := Tryz.zeroValue20
  t37 := Tryz.underlying50
  a37 := Tryz.isAgg50
  z37 := Tryz.sizeOf50
  v37 := Tryz.zeroValue50
  t46 := Tryz.underlying254
  a46 := Tryz.isAgg254
  z46 := Tryz.sizeOf254
  v46 := Tryz.zeroValue254
  t51 := Tryz.underlying299
  a51 := Tryz.isAgg299
  z51 := Tryz.sizeOf299
  v51 := Tryz.zeroValue299
  t53 := Tryz.underlying277
  a53 := Tryz.isAgg277
  z53 := Tryz.sizeOf277
  v53 := Tryz.zeroValue277
  t171 := Tryz.underlying276
  a171 := Tryz.isAgg276
  z171 := Tryz.sizeOf276
  v171 := Tryz.zeroValue276
  t173 := Tryz.underlying280
  a173 := Tryz.isAgg280
  z173 := Tryz.sizeOf280
  v173 := Tryz.zeroValue280
  t212 := Tryz.underlying298
  a212 := Tryz.isAgg298
  z212 := Tryz.sizeOf298
  v212 := Tryz.zeroValue298
  t213 := Tryz.underlying300
  a213 := Tryz.isAgg300
  z213 := Tryz.sizeOf300
  t232 := Tryz.underlying335
  a232 := Tryz.isAgg335
  z232 := Tryz.sizeOf335
  v232 := Tryz.zeroValue335
  t233 := Tryz.underlying336
  a233 := Tryz.isAgg336
  z233 := Tryz.sizeOf336
  v233 := Tryz.zeroValue336
  g17 := by kernel_rfl
  g18 := by kernel_rfl
  g19 := by kernel_rfl
  i0 := by kernel_rfl
  i2 := by kernel_rfl
  i3 := by kernel_rfl
  i4 := by kernel_rfl
  i5 := by kernel_rfl
  i9 := by kernel_rfl
  i20 := by kernel_rfl
  i37 := by kernel_rfl
  i46 := by kernel_rfl
  i51 := by kernel_rfl
  i53 := by kernel_rfl
  i171 := by kernel_rfl
  i173 := by kernel_rfl
  i212 := by kernel_rfl
  i232 := by kernel_rfl
  i233 := by kernel_rfl
  m17 := by kernel_rfl
  m18 := by kernel_rfl
  m19 := by kernel_rfl }
open Go.RowKit Go.Sort Go.Lib in
/-- strconv.Itoa: "Itoa is equivalent to FormatInt(int64(i), 10).": i's DECIMAL NUMERAL ('Lib.itoa': a '-' where i is negative, then the digits), FOR EVERY int. The world behind the call: the world before it, new blocks behind the heap (the library's 'var a [24]byte'), draws. (LAID: no walk: one application.) -/
theorem Tryz.strconv_Itoa (n : Int) (h0 : -9223372036854775808 ≤ n) (h1 : n ≤ 9223372036854775807) (w : World) (htab : Lib.TabIs Tryz.prog w "internal/strconv.uint64pow10" .u64 Lib.pow10Tab) :
    Calls Tryz.prog 79 #[.int .i64 n] w fun e w' => e = .returned (.string ⟨(Lib.itoa n).toArray⟩) ∧ ∃ k os, w' = grow (w.drewN k) os := Any.strconv_Itoa Tryz.laysM171 n h0 h1 w htab
def Tryz.lays171_ren : Go.Shelf.Ren := ⟨fun | 171 => 79 | 243 => 128 | 246 => 167 | 283 => 193 | 284 => 194 | 285 => 195 | 286 => 196 | 129 => 222 | 317 => 221 | 318 => 223 | 319 => 224 | 320 => 225 | 337 => 250 | 338 => 251 | n => n, fun | 3 => 3 | 9 => 9 | 2 => 2 | 4 => 4 | 171 => 276 | 0 => 0 | 53 => 277 | 37 => 50 | 5 => 5 | 173 => 280 | 212 => 298 | 51 => 299 | 20 => 20 | 213 => 300 | 46 => 254 | 232 => 335 | 233 => 336 | n => n, fun | 17 => 4 | 18 => 10 | 19 => 11 | n => n⟩
theorem Tryz.lays171 : Go.Proofs.Lays.n171 Tryz.prog Tryz.lays171_ren := {
  mixed := by kernel_rfl
  f129 := Tryz.func222.trans (congrArg some (by kernel_rfl))
  f171 := Tryz.func79.trans (congrArg some (by kernel_rfl))
  f243 := Tryz.func128.trans (congrArg some (by kernel_rfl))
  f246 := Tryz.func167.trans (congrArg some (by kernel_rfl))
  f283 := Tryz.func193.trans (congrArg some (by kernel_rfl))
  f284 := Tryz.func194.trans (congrArg some (by kernel_rfl))
  f285 := Tryz.func195.trans (congrArg some (by kernel_rfl))
  f286 := Tryz.func196.trans (congrArg some (by kernel_rfl))
  f317 := Tryz.func221.trans (congrArg some (by kernel_rfl))
  f318 := Tryz.func223.trans (congrArg some (by kernel_rfl))
  f319 := Tryz.func224.trans (congrArg some (by kernel_rfl))
  f320 := Tryz.func225.trans (congrArg some (by kernel_rfl))
  f337 := Tryz.func250.trans (congrArg some (by kernel_rfl))
  f338 := Tryz.func251.trans (congrArg some (by kernel_rfl))
  t0 := Tryz.underlying0
  a0 := Tryz.isAgg0
  z0 := Tryz.sizeOf0
  v0 := Tryz.zeroValue0
  t2 := Tryz.underlying2
  a2 := Tryz.isAgg2
  z2 := Tryz.sizeOf2
  v2 := Tryz.zeroValue2
  t3 := Tryz.underlying3
  a3 := Tryz.isAgg3
  z3 := Tryz.sizeOf3
  v3 := Tryz.zeroValue3
  t4 := Tryz.underlying4
  a4 := Tryz.isAgg4
  z4 := Tryz.sizeOf4
  v4 := Tryz.zeroValue4
  t5 := Tryz.underlying5
  a5 := Tryz.isAgg5
  z5 := Tryz.sizeOf5
  v5 := Tryz.zeroValue5
  t9 := Tryz.underlying9
  a9 := Tryz.isAgg9
  z9 := Tryz.sizeOf9
  v9 := Tryz.zeroValue9
  t20 := Tryz.underlying20
  a20 := Tryz.isAgg20
  z20 := Tryz.sizeOf20
  v20 := Tryz.zeroValue20
  t37 := Tryz.underlying50
  a37 := Tryz.isAgg50
  z37 := Tryz.sizeOf50
  v37 := Tryz.zeroValue50
  t46 := Tryz.underlying254
  a46 := Tryz.isAgg254
  z46 := Tryz.sizeOf254
  v46 := Tryz.zeroValue254
  t51 := Tryz.underlying299
  a51 := Tryz.isAgg299
  z51 := Tryz.sizeOf299
  v51 := Tryz.zeroValue299
  t53 := Tryz.underlying277
  a53 := Tryz.isAgg277
  z53 := Tryz.sizeOf277
  v53 := Tryz.zeroValue277
  t171 := Tryz.underlying276
  a171 := Tryz.isAgg276
  z171 := Tryz.sizeOf276
  v171 := Tryz.zeroValue276
  t173 := Tryz.underlying280
  a173 := Tryz.isAgg280
  z173 := Tryz.sizeOf280
  v173 := Tryz.zeroValue280
  t212 := Tryz.underlying298
  a212 := Tryz.isAgg298
  z212 := Tryz.sizeOf298
  v212 := Tryz.zeroValue298
  t213 := Tryz.underlying300
  a213 := Tryz.isAgg300
  z213 := Tryz.sizeOf300
  t232 := Tryz.underlying335
  a232 := Tryz.isAgg335
  z232 := Tryz.sizeOf335
  v232 := Tryz.zeroValue335
  t233 := Tryz.underlying336
  a233 := Tryz.isAgg336
  z233 := Tryz.sizeOf336
  v233 := Tryz.zeroValue336
  g17 := by kernel_rfl
  g18 := by kernel_rfl
  g19 := by kernel_rfl }
open Go.RowKit Go.Sort Go.Lib in
/-- THE ROAD WITHOUT THE TABLE: 0 <= i < 100: NO PREMISE ON THE WORLD, AND THE WORLD IS AS IT WAS: a row that keeps its argument in that range need list no table ('laid = []'). (LAID: no walk: one application.) -/
theorem Tryz.strconv_Itoa_small (i : Nat) (hi : i < 100) (w : World) :
    Calls Tryz.prog 79 #[.int .i64 i] w fun e w' => e = .returned (.string ⟨(Lib.decDigits i).toArray⟩) ∧ w' = w := Any.strconv_Itoa_small Tryz.lays171 i hi w
def Tryz.lays144_ren : Go.Shelf.Ren := ⟨fun | 144 => 165 | 143 => 186 | 219 => 214 | 217 => 243 | 225 => 244 | 224 => 245 | 267 => 246 | 266 => 263 | 314 => 264 | n => n, fun | 9 => 9 | 4 => 4 | 3 => 3 | 5 => 5 | 46 => 254 | 146 => 329 | 51 => 299 | n => n, fun | 1 => 5 | n => n⟩
theorem Tryz.lays144 : Go.Proofs.Lays.n144 Tryz.prog Tryz.lays144_ren := {
  mixed := by kernel_rfl
  f143 := Tryz.func186.trans (congrArg some (by kernel_rfl))
  f144 := Tryz.func165.trans (congrArg some (by kernel_rfl))
  f217 := Tryz.func243.trans (congrArg some (by kernel_rfl))
  f219 := Tryz.func214.trans (congrArg some (by kernel_rfl))
  f224 := Tryz.func245.trans (congrArg some (by kernel_rfl))
  f225 := Tryz.func244.trans (congrArg some (by kernel_rfl))
  f266 := Tryz.func263.trans (congrArg some (by kernel_rfl))
  f267 := Tryz.func246.trans (congrArg some (by kernel_rfl))
  f314 := Tryz.func264.trans (congrArg some (by kernel_rfl))
  t3 := Tryz.underlying3
  a3 := Tryz.isAgg3
  z3 := Tryz.sizeOf3
  v3 := Tryz.zeroValue3
  t4 := Tryz.underlying4
  a4 := Tryz.isAgg4
  z4 := Tryz.sizeOf4
  v4 := Tryz.zeroValue4
  t5 := Tryz.underlying5
  a5 := Tryz.isAgg5
  z5 := Tryz.sizeOf5
  v5 := Tryz.zeroValue5
  t9 := Tryz.underlying9
  a9 := Tryz.isAgg9
  z9 := Tryz.sizeOf9
  v9 := Tryz.zeroValue9
  t46 := Tryz.underlying254
  a46 := Tryz.isAgg254
  z46 := Tryz.sizeOf254
  v46 := Tryz.zeroValue254
  t51 := Tryz.underlying299
  a51 := Tryz.isAgg299
  z51 := Tryz.sizeOf299
  v51 := Tryz.zeroValue299
  t146 := Tryz.underlying329
  a146 := Tryz.isAgg329
  z146 := Tryz.sizeOf329
  v146 := Tryz.zeroValue329
  g1 := by kernel_rfl }
open Go.RowKit Go.Lib in
/-- strings.Contains: "Contains reports whether substr is within s.": IT RETURNS 'Lib.contains s substr'; the world is as it was. (LAID: no walk: one application.) -/
theorem Tryz.strings_Contains (s sub : ByteArray) (m : Int) (w : World) (hs : s.size < 4294967281) (hm : w.cell? ⟨5, 0, none⟩ = some (.int .i64 m)) :
    Calls Tryz.prog 165 #[.string s, .string sub] w fun e w' => e = .returned (.bool (Lib.contains s.data.toList sub.data.toList)) ∧ w' = w := Any.strings_Contains Tryz.lays144 s sub m w hs hm
def Tryz.laysM143_ren : Go.Shelf.Ren := ⟨fun | 143 => 186 | 219 => 214 | 217 => 243 | 225 => 244 | 224 => 245 | 267 => 246 | 266 => 263 | 314 => 264 | n => n, fun | 9 => 9 | 3 => 3 | 4 => 4 | 5 => 5 | 46 => 254 | 146 => 329 | 51 => 299 | n => n, fun | 1 => 5 | n => n⟩
theorem Tryz.laysM143 : Go.Proofs.LaysM.n143 Tryz.prog Tryz.laysM143_ren := {
  mixed := by kernel_rfl
  f143 := Tryz.func186.trans (congrArg some (by kernel_rfl))
  f217 := Tryz.func243.trans (congrArg some (by kernel_rfl))
  f219 := Tryz.func214.trans (congrArg some (by kernel_rfl))
  f224 := Tryz.func245.trans (congrArg some (by kernel_rfl))
  f225 := Tryz.func244.trans (congrArg some (by kernel_rfl))
  f266 := Tryz.func263.trans (congrArg some (by kernel_rfl))
  f267 := Tryz.func246.trans (congrArg some (by kernel_rfl))
  f314 := Tryz.func264.trans (congrArg some (by kernel_rfl))
  t3 := Tryz.underlying3
  a3 := Tryz.isAgg3
  z3 := Tryz.sizeOf3
  v3 := Tryz.zeroValue3
  t4 := Tryz.underlying4
  a4 := Tryz.isAgg4
  z4 := Tryz.sizeOf4
  v4 := Tryz.zeroValue4
  t5 := Tryz.underlying5
  a5 := Tryz.isAgg5
  z5 := Tryz.sizeOf5
  v5 := Tryz.zeroValue5
  t9 := Tryz.underlying9
  a9 := Tryz.isAgg9
  z9 := Tryz.sizeOf9
  v9 := Tryz.zeroValue9
  t46 := Tryz.underlying254
  a46 := Tryz.isAgg254
  z46 := Tryz.sizeOf254
  v46 := Tryz.zeroValue254
  t51 := Tryz.underlying299
  a51 := Tryz.isAgg299
  z51 := Tryz.sizeOf299
  v51 := Tryz.zeroValue299
  t146 := Tryz.underlying329
  a146 := Tryz.isAgg329
  z146 := Tryz.sizeOf329
  v146 := Tryz.zeroValue329
  g1 := by kernel_rfl
  i3 := by kernel_rfl
  i4 := by kernel_rfl
  i5 := by kernel_rfl
  i9 := by kernel_rfl
  i46 := by kernel_rfl
  i51 := by kernel_rfl
  i146 := by kernel_rfl
  m1 := by kernel_rfl
  s1_3 := fun w h => Go.Proofs.cell_of_shapedOpen_int (zero := #[.int .i64 0]) (t := 3) h (of_decide_eq_true (by kernel_rfl)) (by kernel_rfl) rfl (by kernel_rfl) (by kernel_rfl) Tryz.underlying3 }
def Tryz.lays164_ren : Go.Shelf.Ren := ⟨fun | 164 => 271 | 197 => 198 | 239 => 274 | 260 => 227 | 274 => 276 | 275 => 277 | n => n, fun | 9 => 9 | 4 => 4 | 3 => 3 | 5 => 5 | 0 => 0 | 21 => 21 | 105 => 264 | 156 => 347 | 49 => 346 | 157 => 348 | 46 => 254 | 159 => 350 | 162 => 353 | 160 => 351 | 119 => 306 | 139 => 309 | 138 => 308 | 208 => 358 | 51 => 299 | 206 => 356 | n => n, fun | 11 => 14 | 12 => 15 | 13 => 16 | 3 => 6 | 4 => 7 | n => n⟩
theorem Tryz.lays164 : Go.Proofs.Lays.n164 Tryz.prog Tryz.lays164_ren := {
  mixed := by kernel_rfl
  f164 := Tryz.func271.trans (congrArg some (by kernel_rfl))
  f197 := Tryz.func198.trans (congrArg some (by kernel_rfl))
  f239 := Tryz.func274.trans (congrArg some (by kernel_rfl))
  f260 := Tryz.func227.trans (congrArg some (by kernel_rfl))
  f274 := Tryz.func276.trans (congrArg some (by kernel_rfl))
  f275 := Tryz.func277.trans (congrArg some (by kernel_rfl))
  t0 := Tryz.underlying0
  a0 := Tryz.isAgg0
  z0 := Tryz.sizeOf0
  v0 := Tryz.zeroValue0
  t3 := Tryz.underlying3
  a3 := Tryz.isAgg3
  z3 := Tryz.sizeOf3
  v3 := Tryz.zeroValue3
  t4 := Tryz.underlying4
  a4 := Tryz.isAgg4
  z4 := Tryz.sizeOf4
  v4 := Tryz.zeroValue4
  t5 := Tryz.underlying5
  a5 := Tryz.isAgg5
  z5 := Tryz.sizeOf5
  v5 := Tryz.zeroValue5
  t9 := Tryz.underlying9
  a9 := Tryz.isAgg9
  z9 := Tryz.sizeOf9
  v9 := Tryz.zeroValue9
  t21 := Tryz.underlying21
  a21 := Tryz.isAgg21
  z21 := Tryz.sizeOf21
  v21 := Tryz.zeroValue21
  t46 := Tryz.underlying254
  a46 := Tryz.isAgg254
  z46 := Tryz.sizeOf254
  v46 := Tryz.zeroValue254
  t49 := Tryz.underlying346
  a49 := Tryz.isAgg346
  z49 := Tryz.sizeOf346
  v49 := Tryz.zeroValue346
  t51 := Tryz.underlying299
  a51 := Tryz.isAgg299
  z51 := Tryz.sizeOf299
  v51 := Tryz.zeroValue299
  t105 := Tryz.underlying264
  a105 := Tryz.isAgg264
  z105 := Tryz.sizeOf264
  v105 := Tryz.zeroValue264
  t119 := Tryz.underlying306
  a119 := Tryz.isAgg306
  z119 := Tryz.sizeOf306
  t138 := Tryz.underlying308
  a138 := Tryz.isAgg308
  z138 := Tryz.sizeOf308
  v138 := Tryz.zeroValue308
  t139 := Tryz.underlying309
  a139 := Tryz.isAgg309
  z139 := Tryz.sizeOf309
  v139 := Tryz.zeroValue309
  t156 := Tryz.underlying347
  a156 := Tryz.isAgg347
  z156 := Tryz.sizeOf347
  t157 := Tryz.underlying348
  a157 := Tryz.isAgg348
  z157 := Tryz.sizeOf348
  v157 := Tryz.zeroValue348
  t159 := Tryz.underlying350
  a159 := Tryz.isAgg350
  z159 := Tryz.sizeOf350
  v159 := Tryz.zeroValue350
  t160 := Tryz.underlying351
  a160 := Tryz.isAgg351
  z160 := Tryz.sizeOf351
  v160 := Tryz.zeroValue351
  t162 := Tryz.underlying353
  a162 := Tryz.isAgg353
  z162 := Tryz.sizeOf353
  v162 := Tryz.zeroValue353
  t206 := Tryz.underlying356
  a206 := Tryz.isAgg356
  z206 := Tryz.sizeOf356
  v206 := Tryz.zeroValue356
  t208 := Tryz.underlying358
  a208 := Tryz.isAgg358
  z208 := Tryz.sizeOf358
  v208 := Tryz.zeroValue358
  g3 := by kernel_rfl
  g4 := by kernel_rfl
  g11 := by kernel_rfl
  g12 := by kernel_rfl
  g13 := by kernel_rfl }
open Go.RowKit Go.Lib in
theorem Tryz.strings_EqualFold (s t : ByteArray) (w : World) (hs : s.size < 4294967281) (has : ∀ (j : Nat) b, s.data.toList[j]? = some b → b.toNat < 128) (hat : ∀ (j : Nat) b, t.data.toList[j]? = some b → b.toNat < 128) :
    Calls Tryz.prog 271 #[.string s, .string t] w fun e w' => e = .returned (.bool (Lib.equalFold s.data.toList t.data.toList)) ∧ w' = w := Any.strings_EqualFold Tryz.lays164 s t w hs has hat
def Tryz.lays197_ren : Go.Shelf.Ren := ⟨fun | 197 => 198 | 260 => 227 | n => n, fun | 9 => 9 | 21 => 21 | 3 => 3 | 4 => 4 | 5 => 5 | 105 => 264 | 119 => 306 | 0 => 0 | 46 => 254 | 139 => 309 | 138 => 308 | n => n, fun | 3 => 6 | 4 => 7 | n => n⟩
theorem Tryz.lays197 : Go.Proofs.Lays.n197 Tryz.prog Tryz.lays197_ren := {
  mixed := by kernel_rfl
  f197 := Tryz.func198.trans (congrArg some (by kernel_rfl))
  f260 := Tryz.func227.trans (congrArg some (by kernel_rfl))
  t0 := Tryz.underlying0
  a0 := Tryz.isAgg0
  z0 := Tryz.sizeOf0
  v0 := Tryz.zeroValue0
  t3 := Tryz.underlying3
  a3 := Tryz.isAgg3
  z3 := Tryz.sizeOf3
  v3 := Tryz.zeroValue3
  t4 := Tryz.underlying4
  a4 := Tryz.isAgg4
  z4 := Tryz.sizeOf4
  v4 := Tryz.zeroValue4
  t5 := Tryz.underlying5
  a5 := Tryz.isAgg5
  z5 := Tryz.sizeOf5
  v5 := Tryz.zeroValue5
  t9 := Tryz.underlying9
  a9 := Tryz.isAgg9
  z9 := Tryz.sizeOf9
  v9 := Tryz.zeroValue9
  t21 := Tryz.underlying21
  a21 := Tryz.isAgg21
  z21 := Tryz.sizeOf21
  v21 := Tryz.zeroValue21
  t46 := Tryz.underlying254
  a46 := Tryz.isAgg254
  z46 := Tryz.sizeOf254
  v46 := Tryz.zeroValue254
  t105 := Tryz.underlying264
  a105 := Tryz.isAgg264
  z105 := Tryz.sizeOf264
  v105 := Tryz.zeroValue264
  t119 := Tryz.underlying306
  a119 := Tryz.isAgg306
  z119 := Tryz.sizeOf306
  t138 := Tryz.underlying308
  a138 := Tryz.isAgg308
  z138 := Tryz.sizeOf308
  v138 := Tryz.zeroValue308
  t139 := Tryz.underlying309
  a139 := Tryz.isAgg309
  z139 := Tryz.sizeOf309
  v139 := Tryz.zeroValue309
  g3 := by kernel_rfl
  g4 := by kernel_rfl }
open Go.RowKit Go.Lib in
/-- unicode/utf8.DecodeRuneInString: "DecodeRuneInString is like DecodeRune but its input is a string.": ("DecodeRune unpacks the first UTF-8 encoding in p and returns the rune and its width in bytes."): WHERE s BEGINS WITH AN ASCII BYTE x: (x, 1). (LAID: no walk: one application.) -/
theorem Tryz.utf8_DecodeRuneInString_ascii (s : ByteArray) (x : UInt8) (w : World) (h0 : s.data.toList[0]? = some x) (hx : x.toNat < 128) :
    Calls Tryz.prog 198 #[.string s] w fun e w' => e = .returned (.tuple #[.int .i32 x.toNat, .int .i64 1]) ∧ w' = w := Any.utf8_DecodeRuneInString_ascii Tryz.lays197 s x w h0 hx
def Tryz.lays274_ren : Go.Shelf.Ren := ⟨fun | 274 => 276 | n => n, fun | 21 => 21 | 162 => 353 | 160 => 351 | 3 => 3 | 4 => 4 | 46 => 254 | 0 => 0 | 208 => 358 | 51 => 299 | 206 => 356 | n => n, fun | n => n⟩
theorem Tryz.lays274 : Go.Proofs.Lays.n274 Tryz.prog Tryz.lays274_ren := {
  mixed := by kernel_rfl
  f274 := Tryz.func276.trans (congrArg some (by kernel_rfl))
  t0 := Tryz.underlying0
  a0 := Tryz.isAgg0
  z0 := Tryz.sizeOf0
  v0 := Tryz.zeroValue0
  t3 := Tryz.underlying3
  a3 := Tryz.isAgg3
  z3 := Tryz.sizeOf3
  v3 := Tryz.zeroValue3
  t4 := Tryz.underlying4
  a4 := Tryz.isAgg4
  z4 := Tryz.sizeOf4
  v4 := Tryz.zeroValue4
  t21 := Tryz.underlying21
  a21 := Tryz.isAgg21
  z21 := Tryz.sizeOf21
  v21 := Tryz.zeroValue21
  t46 := Tryz.underlying254
  a46 := Tryz.isAgg254
  z46 := Tryz.sizeOf254
  v46 := Tryz.zeroValue254
  t51 := Tryz.underlying299
  a51 := Tryz.isAgg299
  z51 := Tryz.sizeOf299
  v51 := Tryz.zeroValue299
  t160 := Tryz.underlying351
  a160 := Tryz.isAgg351
  z160 := Tryz.sizeOf351
  v160 := Tryz.zeroValue351
  t162 := Tryz.underlying353
  a162 := Tryz.isAgg353
  z162 := Tryz.sizeOf353
  v162 := Tryz.zeroValue353
  t208 := Tryz.underlying358
  a208 := Tryz.isAgg358
  z208 := Tryz.sizeOf358
  v208 := Tryz.zeroValue358 }
end Go.Proofs
/- Small lemmas on worlds, slices of bytes and strings that this seat's texts use; no condition. -/
namespace Go.Proofs.YthihkbcdihochaaGreatDoor
open Go.ChangeShapes Go.WideShapes Go.ChangeAt Go.RowKit
set_option linter.unusedVariables false
/-- What every file over this seat uses: blocks of cells as wholes, and how they stand behind a store and a new block. -/
theorem cell_of {w : World} {b : Nat} {vs : Array Value} {T : TypeId} {f : Nat × Nat} (i : Nat) (h : w.heap[b]? = some (.cells vs T f)) : w.cell? ⟨b, i, none⟩ = vs[i]? := by simp [World.cell?, h]
theorem free_of {w : World} {b : Nat} {vs : Array Value} {T : TypeId} (i : Nat) (h : w.heap[b]? = some (.cells vs T)) : w.frozen? ⟨b, i, none⟩ = false := by simp [World.frozen?, h]
theorem lt_of {w : World} {b : Nat} {o : Obj} (h : w.heap[b]? = some o) : b < w.heap.size := by
  rcases Nat.lt_or_ge b w.heap.size with h' | h'
  · exact h'
  · simp [Array.getElem?_eq_none h'] at h
theorem hp_new (w : World) (o : Obj) : (w.alloc o).heap[w.heap.size]? = some o := by
  show (w.heap.push o)[w.heap.size]? = _
  simp
theorem hp_old {w : World} {o o' : Obj} {k : Nat} (h : w.heap[k]? = some o') : (w.alloc o).heap[k]? = some o' := by
  rw [← h]; exact Below.heap_alloc _ _ _ (lt_of h)
theorem hp_other {w : World} {b i k : Nat} {v : Value} (h : k ≠ b) : (w.setCell ⟨b, i, none⟩ v).heap[k]? = w.heap[k]? := Below.heap_setCell _ _ _ _ h
theorem hp_set {w : World} {b i : Nat} {v : Value} {vs : Array Value} {T : TypeId} {f : Nat × Nat} (h : w.heap[b]? = some (.cells vs T f)) :
    (w.setCell ⟨b, i, none⟩ v).heap[b]? = some (.cells (vs.setIfInBounds i v) T f) := by
  simp [World.setCell, Array.getElem?_modify, h]
theorem below_drewN' {B : Nat} {a w : World} {n : Nat} (h : Below B a w) : Below B a (w.drewN n) := below_drewN h n
theorem gr_refl (w : World) (row : Option Nat) : w.grownBy w row := ⟨rfl, rfl, rfl, Nat.le_refl _, fun _ _ _ => rfl⟩
theorem _root_.Go.World.grownBy.drewN {a w : World} {row : Option Nat} {n : Nat} (h : a.grownBy w row) : a.grownBy (w.drewN n) row := ⟨h.os, h.tape, h.output, h.size, h.block⟩
theorem _root_.Go.World.grownBy.setCell {a w : World} {b : Nat} (h : a.grownBy w (some b)) (i : Nat) (v : Value) : a.grownBy (w.setCell ⟨b, i, none⟩ v) (some b) :=
  ⟨h.os, h.tape, h.output, by simpa using h.size, fun k hk hr => by rw [hp_other (by intro e; exact hr (by rw [e]))]; exact h.block k hk hr⟩
theorem _root_.Go.World.grownBy.alloc {a w : World} {row : Option Nat} (h : a.grownBy w row) (o : Obj) : a.grownBy (w.alloc o) row :=
  ⟨h.os, h.tape, h.output, by have := h.size; simp; omega, fun k hk hr => by rw [Below.heap_alloc _ _ _ (by have := h.size; omega)]; exact h.block k hk hr⟩
theorem _root_.Go.RowKit.Below.gr {w w' : World} (h : Below w.heap.size w w') (row : Option Nat) : w.grownBy w' row := ⟨h.os, h.tape, h.output, h.size, fun k hk _ => h.block k hk⟩
theorem _root_.Go.World.grownBy.below {w w' : World} {b B : Nat} (h : w.grownBy w' (some b)) (hB : B ≤ w.heap.size) (hb : B ≤ b) : Below B w w' := (Below.refl B w).grown h hB fun k e => by cases e; exact hb
/-- WHAT THE WALK IS TOLD OF A SLICE OF INTEGERS THAT CAME IN. -/
def IsRow (k : IntKind) (w : World) (a : Option Addr) (len cap : Nat) (zs : List Int) : Prop :=
  (a = none ∧ len = 0 ∧ cap = 0 ∧ zs = []) ∨
  ∃ x, a = some x ∧ len ≤ cap ∧ cap ≤ maxLen ∧ zs.length = cap ∧ (∀ i, i < zs.length → w.cell? (x.add i) = some (.int k (zs.getD i 0))) ∧ ∀ n ∈ zs, (Lit.int k n).wf = true
theorem IsRow.at {k : IntKind} {w : World} {a : Option Addr} {len cap : Nat} {zs : List Int} (h : IsRow k w a len cap zs) : len ≤ cap ∧ zs.length = cap ∧ len ≤ maxLen ∧
    (0 < len → ∃ b o, a = some ⟨b, o, none⟩ ∧ b < w.heap.size ∧ ∀ i, i < len → w.cell? ⟨b, o + i, none⟩ = some (.int k (zs.getD i 0))) := by
  rcases h with ⟨rfl, rfl, rfl, rfl⟩ | ⟨⟨b, o, s⟩, rfl, hl, hm, hz, hc, _⟩
  · exact ⟨by omega, rfl, Nat.zero_le _, fun h => absurd h (by omega)⟩
  · refine ⟨hl, hz, by omega, fun h0 => ?_⟩
    have h := hc 0 (by omega)
    have hs : s = none := by simpa [Addr.add] using World.cell?_spot h
    subst hs
    exact ⟨b, o, rfl, World.block_lt_of_cell? w _ h, fun i hi => by
    have := hc i (by omega)
    unfold Addr.add at this
    split at this
    · rename_i hi; subst hi; exact this
    · exact this⟩

/-- One byte as the model holds it. -/
def bv (b : UInt8) : Value := .int .u8 b.toNat
/-- A slice of one-cell elements that can be read: n elements, room for cap, its cells below block B. -/
structure Rd (w : World) (B : Nat) (A : Option Addr) (n cap : Nat) (us : List Value) : Prop where
  len : us.length = n
  le : n ≤ cap
  fit : cap ≤ maxLen
  nil : A = none → cap = 0
  at_ : 0 < cap → ∃ b o, A = some ⟨b, o, none⟩ ∧ b < B ∧ ∀ i u, us[i]? = some u → w.cell? ⟨b, o + i, none⟩ = some u
/-- A slice of bytes that can be read. -/
def Byt (w : World) (B : Nat) (A : Option Addr) (n cap : Nat) (l : List UInt8) : Prop := Rd w B A n cap (l.map bv)
section
variable {w w' : World} {B B' n cap : Nat} {A : Option Addr} {us : List Value} {l : List UInt8}
theorem Rd.keep (h : Rd w B A n cap us) (hk : ∀ p : Addr, p.block < B → w'.cell? p = w.cell? p) : Rd w' B A n cap us :=
  ⟨h.len, h.le, h.fit, h.nil, fun h0 => by
    obtain ⟨b, o, e, hb, hc⟩ := h.at_ h0
    exact ⟨b, o, e, hb, fun i u hu => (hk ⟨b, o + i, none⟩ hb).trans (hc i u hu)⟩⟩
theorem Rd.more (h : Rd w B A n cap us) (hB : B ≤ B') : Rd w B' A n cap us :=
  ⟨h.len, h.le, h.fit, h.nil, fun h0 => by
    obtain ⟨b, o, e, hb, hc⟩ := h.at_ h0
    exact ⟨b, o, e, by omega, hc⟩⟩
theorem Rd.below (h : Rd w B A n cap us) (hb : Below B w w') : Rd w' B A n cap us := h.keep fun p hp => hb.cell hp
theorem Rd.drewN {k : Nat} (h : Rd w B A n cap us) : Rd (w.drewN k) B A n cap us := h.keep (w' := w.drewN k) fun _ _ => rfl
theorem Rd.nilR (w : World) (B : Nat) : Rd w B none 0 0 [] := ⟨rfl, Nat.le_refl _, Nat.zero_le _, fun _ => rfl, fun h => absurd h (by omega)⟩
theorem Rd.ofOwn {base : Nat} {e : TypeId} {c : Nat} (h : w.ownsRow base e 1 (.slice A n c) n us) : Rd w w.heap.size A n c us := by
  obtain ⟨hl, h2 | ⟨g, cap, cur, hv, hg, hh, hn, hc, hs, ht⟩⟩ := h
  · obtain ⟨hv, hn⟩ := h2
    cases hv
    have : us = [] := by simpa using hl
    subst this
    exact Rd.nilR w _
  · cases hv
    refine ⟨by simpa using hl, hn, hc, (fun e => by cases e), fun _ => ⟨g, 0, rfl, lt_of hh, fun i u hu => ?_⟩⟩
    rw [cell_of _ hh, ← hu, ← ht, Nat.zero_add]
    have hi : i < us.length := by
      rcases Nat.lt_or_ge i us.length with h' | h'
      · exact h'
      · simp [List.getElem?_eq_none h'] at hu
    rw [List.getElem?_take_of_lt (by rw [← hl]; exact hi), Array.getElem?_toList]
theorem Rd.take {k : Nat} (h : Rd w B A n cap us) (hk : k ≤ n) : Rd w B A k cap (us.take k) :=
  ⟨by rw [List.length_take, h.len]; omega, by have := h.le; omega, h.fit, h.nil, fun h0 => by
    obtain ⟨b, o, e, hb, hc⟩ := h.at_ h0
    exact ⟨b, o, e, hb, fun i u hu => hc i u (by rw [List.getElem?_take] at hu; split at hu
                                                 · exact hu
                                                 · cases hu)⟩⟩
theorem Byt.length (h : Byt w B A n cap l) : l.length = n := by simpa using h.len
theorem Byt.below (h : Byt w B A n cap l) (hb : Below B w w') : Byt w' B A n cap l := Rd.below h hb
theorem Byt.more (h : Byt w B A n cap l) (hB : B ≤ B') : Byt w B' A n cap l := Rd.more h hB
theorem Byt.drewN {k : Nat} (h : Byt w B A n cap l) : Byt (w.drewN k) B A n cap l := Rd.drewN h
theorem Byt.take {k : Nat} (h : Byt w B A n cap l) (hk : k ≤ n) : Byt w B A k cap (l.take k) := by
  have := Rd.take h hk
  rwa [← List.map_take] at this
theorem Byt.cell {i : Nat} (h : Byt w B A n cap l) (hi : i < n) : ∃ b o c, A = some ⟨b, o, none⟩ ∧ b < B ∧ l[i]? = some c ∧ w.cell? ⟨b, o + i, none⟩ = some (.int .u8 (UInt8.toNat c : Int)) := by
  obtain ⟨b, o, e, hb, hc⟩ := h.at_ (by have := h.le; omega)
  have hl : i < l.length := by rw [h.length]; exact hi
  exact ⟨b, o, l[i], e, hb, List.getElem?_eq_getElem hl, hc i _ (by simp [hl, bv])⟩
/-- The same bytes as a shelf's contract reads them: numbers. -/
def nums (l : List UInt8) : List Int := l.map fun b => (b.toNat : Int)
theorem Byt.cells (h : Byt w B A n cap l) (h0 : 0 < cap) : ∃ b o, A = some ⟨b, o, none⟩ ∧ ∀ i, i < n → w.cell? ⟨b, o + i, none⟩ = some (.int .u8 ((nums l).getD i 0)) := by
  obtain ⟨b, o, e, hb, hc⟩ := h.at_ h0
  refine ⟨b, o, e, fun i hi => ?_⟩
  have hl : i < l.length := by rw [h.length]; exact hi
  rw [hc i _ (by simp [hl, bv]; rfl)]
  simp [nums, hl]
end
theorem own_form {w : World} {base : Nat} {e : TypeId} {v : Value} {n : Nat} {xs : List Value} (h : w.ownsRow base e 1 v n xs) : ∃ A c, v = .slice A n c ∧ Rd w w.heap.size A n c xs := by
  have h' := h
  obtain ⟨hl, ⟨hv, hn⟩ | ⟨g, cap, cur, hv, r⟩⟩ := h
  · subst hn; exact ⟨none, 0, hv, Rd.ofOwn (c := 0) (hv ▸ h')⟩
  · exact ⟨_, cap, hv, Rd.ofOwn (hv ▸ h')⟩
theorem Byt.drew {w : World} {B n cap : Nat} {A : Option Addr} {l : List UInt8} (h : Byt w B A n cap l) : Byt w.drew B A n cap l := Rd.keep (w' := w.drew) h fun _ _ => rfl
/-- The address of a slice that begins later. -/
def cutA (A : Option Addr) (cap s : Nat) : Option Addr := if cap = s then A else A.map (·.add s)
theorem addr_add (b o s : Nat) : (⟨b, o, none⟩ : Addr).add s = ⟨b, o + s, none⟩ := by
  unfold Addr.add
  split
  · rename_i h; subst h; rfl
  · rfl
theorem Rd.drop {w : World} {B n cap : Nat} {A : Option Addr} {us : List Value} {k : Nat} (h : Rd w B A n cap us) (hk : k ≤ n) : Rd w B (cutA A cap k) (n - k) (cap - k) (us.drop k) := by
  refine ⟨by rw [List.length_drop, h.len], by have := h.le; omega, by have := h.fit; omega, fun e => ?_, fun h0 => ?_⟩
  · unfold cutA at e
    split at e
    · omega
    · have : A = none := by cases A with
        | none => rfl
        | some a => simp at e
      have := h.nil this
      omega
  · obtain ⟨b, o, rfl, hb, hc⟩ := h.at_ (by omega)
    unfold cutA
    rw [if_neg (by omega), Option.map_some, addr_add]
    exact ⟨b, o + k, rfl, hb, fun i u hu => by rw [Nat.add_assoc]; exact hc (k + i) u (by rw [← hu, List.getElem?_drop])⟩
theorem Byt.drop {w : World} {B n cap : Nat} {A : Option Addr} {l : List UInt8} {k : Nat} (h : Byt w B A n cap l) (hk : k ≤ n) : Byt w B (cutA A cap k) (n - k) (cap - k) (l.drop k) := by
  have := Rd.drop h hk
  rwa [← List.map_drop] at this
end Go.Proofs.YthihkbcdihochaaGreatDoor
/- Plain facts on characters as bytes. -/
namespace Go.Proofs.YthihkbcdihochaaGreatDoor
open Go.ChangeShapes Go.WideShapes Go.ChangeAt Go.RowKit
set_option linter.unusedVariables false
theorem take_snoc (l : List UInt8) (k : Nat) (c : UInt8) (h : l[k]? = some c) : l.take (k + 1) = l.take k ++ [c] := by
  rw [List.take_add_one, h]; rfl
theorem toNat_eq (c d : UInt8) : ((c.toNat : Int) == (d.toNat : Int)) = decide (c = d) := by
  by_cases h : c = d
  · simp [h]
  · have : ¬ c.toNat = d.toNat := fun e => h (UInt8.toNat_inj.1 e)
    simp [h]; omega
/-- A character's number. -/
def isR (r : Int) : Bool := decide (0 ≤ r) && decide (r ≤ 1114111) && (decide (r < 55296) || decide (57343 < r))
/-- How many bytes a character has, by the first one; 0: it is none. -/
def lenB (c : Nat) : Nat := if c < 128 then 1 else if c < 192 then 0 else if c < 224 then 2 else if c < 240 then 3 else if c < 248 then 4 else 0
def msk (n c : Nat) : Nat := if n = 1 then c % 128 else if n = 2 then c % 32 else if n = 3 then c % 16 else c % 8
def least (n : Nat) : Nat := if n = 1 then 0 else if n = 2 then 128 else if n = 3 then 2048 else 65536
/-- What follows on a first byte. -/
def cont (r : Nat) : List UInt8 → Option Nat
  | [] => some r
  | c :: t => if 128 ≤ c.toNat ∧ c.toNat < 192 then cont (r * 64 + (c.toNat - 128)) t else none
/-- The character that bytes begin with, and how many of them it has. -/
def dec : List UInt8 → Option (Nat × Nat)
  | [] => none
  | c :: t => if lenB c.toNat = 0 ∨ t.length + 1 < lenB c.toNat then none else
    match cont (msk (lenB c.toNat) c.toNat) (t.take (lenB c.toNat - 1)) with
    | some r => if least (lenB c.toNat) ≤ r ∧ isR r = true then some (r, lenB c.toNat) else none
    | none => none
theorem lenB_le (c : Nat) : lenB c ≤ 4 := by unfold lenB; repeat' split <;> try omega
theorem dec_le (l : List UInt8) (r n : Nat) (h : dec l = some (r, n)) : 1 ≤ n ∧ n ≤ 4 ∧ n ≤ l.length ∧ r ≤ 1114111 := by
  cases l with
  | nil => simp [dec] at h
  | cons c t =>
    have h4 := lenB_le c.toNat
    simp only [dec] at h
    split at h
    · cases h
    · rename_i hn
      split at h
      · rename_i q hq
        split at h
        · rename_i hr
          simp only [Option.some.injEq, Prod.mk.injEq] at h
          obtain ⟨rfl, rfl⟩ := h
          simp only [not_or] at hn
          refine ⟨by omega, h4, by simp; omega, ?_⟩
          have := hr.2
          simp [isR] at this
          omega
        · cases h
      · cases h
end Go.Proofs.YthihkbcdihochaaGreatDoor
/- Strings: pieces; narthexref06.Digits. -/
namespace Go.Proofs.YthihkbcdihochaaGreatDoor
open Go.ChangeShapes Go.WideShapes Go.ChangeAt Go.RowKit
set_option linter.unusedVariables false
/-- 's[i:j]' of a string. -/
theorem run_strSlice (l : List UInt8) (i j : Nat) (h : i ≤ j) (hj : j ≤ l.length) (w : World) :
    (Instr.slice 9 (.string ⟨l.toArray⟩) (some (.int .i64 (i : Int))) (some (.int .i64 (j : Int))) none).run Tryz.prog w = .ok (.string ⟨((l.drop i).take (j - i)).toArray⟩) w := by
  have hsz : (⟨l.toArray⟩ : ByteArray).size = l.length := by simp [ByteArray.size]
  rw [run_slice_string w 9 ⟨l.toArray⟩ .i64 .i64 i j Tryz.underlying9 (by omega) (by omega) (by rw [hsz]; omega)]
  congr 2
  refine ByteArray.ext (Array.toList_inj.1 ?_)
  rw [Lib.extract_data]
  simp
/-- 's[k]' of a string. -/
theorem run_strIndex (l : List UInt8) (k : Nat) (hk : k < l.length) (w : World) :
    (Instr.index 9 (.string ⟨l.toArray⟩) (.int .i64 (k : Int))).run Tryz.prog w = .ok (.int .u8 (UInt8.toNat (l.getD k 0) : Int)) w := by
  have hsz : (⟨l.toArray⟩ : ByteArray).size = l.length := by simp [ByteArray.size]
  have hb : ((⟨l.toArray⟩ : ByteArray)[k]'(by rw [hsz]; exact hk)) = l.getD k 0 := by
    simp [ByteArray.getElem_eq_getElem_data, hk]
  rw [run_index_string (P := Tryz.prog) w 9 ⟨l.toArray⟩ .i64 (k : Int) Tryz.underlying9, dif_pos ⟨by omega, by rw [hsz]; omega⟩]
  simp only [Int.toNat_natCast, hb]
theorem run_sop {w : World} (a b : List UInt8) (h : a.length + b.length ≤ 9223372036854775807) : (Op.stringOp .add ⟨a.toArray⟩ ⟨b.toArray⟩).run Tryz.prog w = .ok (.string ⟨(a ++ b).toArray⟩) w := by
  rw [run_string_add_sum w _ _ (by simp [ByteArray.size]; omega), ByteArray.mk_append_mk]
set_option maxRecDepth 100000 in
/-- The ten digits. -/
theorem run_digitAt (d : Nat) (h : d < 10) (w : World) :
    (Instr.slice 9 (.string ⟨#[48, 49, 50, 51, 52, 53, 54, 55, 56, 57]⟩) (some (.int .i64 (d : Int))) (some (.int .i64 ((d : Int) + 1))) none).run Tryz.prog w = .ok (.string ⟨[UInt8.ofNat (48 + d)].toArray⟩) w := by
  have := run_strSlice [48, 49, 50, 51, 52, 53, 54, 55, 56, 57] d (d + 1) (by omega) (by simp; omega) w
  rw [show ((d + 1 : Nat) : Int) = (d : Int) + 1 by omega] at this
  have key : (([48, 49, 50, 51, 52, 53, 54, 55, 56, 57] : List UInt8).drop d).take (d + 1 - d) = [UInt8.ofNat (48 + d)] := by
    have : d = 0 ∨ d = 1 ∨ d = 2 ∨ d = 3 ∨ d = 4 ∨ d = 5 ∨ d = 6 ∨ d = 7 ∨ d = 8 ∨ d = 9 := by omega
    rcases this with rfl | rfl | rfl | rfl | rfl | rfl | rfl | rfl | rfl | rfl <;> decide +kernel
  rw [key] at this
  exact this
theorem decDigits_le (n : Nat) (h : n ≤ 2000000) : (Lib.decDigits n).length ≤ 7 := by
  rw [Lib.decDigits]; split
  · simp
  rw [Lib.decDigits]; split
  · simp
  rw [Lib.decDigits]; split
  · simp
  rw [Lib.decDigits]; split
  · simp
  rw [Lib.decDigits]; split
  · simp
  rw [Lib.decDigits]; split
  · simp
  rw [Lib.decDigits]; split
  · simp
  omega
set_option maxRecDepth 100000 in
set_option maxHeartbeats 2000000 in
theorem refDigits_c (n : Nat) (hn : n ≤ 2000000) (w : World) :
    Calls Tryz.prog 56 #[.int .i64 n] w fun e w' => e = .returned (.string ⟨(Lib.decDigits n).toArray⟩) ∧ w = w' := by
  have HL := Lib.hid (decDigits_le n hn)
  go_enter Tryz.func56, Tryz.ntmps56
  go_wp2
  go_loop [0, 3] (fun x s => ∃ (m : Nat) (t : List UInt8), m ≤ 2000000 ∧ x = .int .i64 m ∧ s = .string ⟨t.toArray⟩ ∧ Hid (Lib.decDigits n = Lib.decDigits m ++ t)) (fun x _ => (intOf x).toNat)
  case atStart => exact ⟨n, [], hn, rfl, rfl, Lib.hid (by simp)⟩
  case round =>
    obtain ⟨m, t, hm, rfl, rfl, hd⟩ := hrel
    have HT : Hid (t.length ≤ 7) := Lib.hid (by have := HL.out; rw [hd.out, List.length_append] at this; omega)
    have hm0 : (0 : Int) ≤ (m : Int) := by omega
    have hm1 : (m : Int) ≤ 2000000 := by omega
    by_cases h9 : 9 < m
    · have h9' : (9 : Int) < (m : Int) := by omega
      have hsl := run_digitAt (m % 10) (by omega) w
      rw [show ((m % 10 : Nat) : Int) = (m : Int) % 10 by omega] at hsl
      have hct : (Op.stringOp .add ⟨#[UInt8.ofNat (48 + m % 10)]⟩ ⟨t.toArray⟩).run Tryz.prog w = .ok (.string ⟨(UInt8.ofNat (48 + m % 10) :: t).toArray⟩) w := run_sop (w := w) [UInt8.ofNat (48 + m % 10)] t (by have := HT.out; simp; omega)
      have HD : Hid (Lib.decDigits n = Lib.decDigits (m / 10) ++ (UInt8.ofNat (48 + m % 10) :: t)) := Lib.hid (by
        rw [hd.out, Lib.decDigits, dif_neg (by omega)]; simp)
      generalize UInt8.ofNat (48 + m % 10) = u at *
      go_wp2
      go_round
      case rel => exact ⟨m / 10, u :: t, by omega, by go_num, rfl, HD⟩
      case measure => simp [intOf]; omega
    · have h9' : ¬ (9 : Int) < (m : Int) := by omega
      have hsl := run_digitAt m (by omega) w
      have hct : (Op.stringOp .add ⟨#[UInt8.ofNat (48 + m)]⟩ ⟨t.toArray⟩).run Tryz.prog w = .ok (.string ⟨(UInt8.ofNat (48 + m) :: t).toArray⟩) w := run_sop (w := w) [UInt8.ofNat (48 + m)] t (by have := HT.out; simp; omega)
      have HD : Hid (Lib.decDigits n = [UInt8.ofNat (48 + m)] ++ t) := Lib.hid (by
        rw [hd.out, Lib.decDigits, dif_pos (by omega)])
      generalize UInt8.ofNat (48 + m) = u at *
      go_wp2
      go_ret
      exact ⟨by rw [HD.out]; rfl, rfl⟩
end Go.Proofs.YthihkbcdihochaaGreatDoor
/- strings.Builder: what its methods do to a builder that the call has made. -/
namespace Go.Proofs.YthihkbcdihochaaGreatDoor
open Go.ChangeShapes Go.WideShapes Go.ChangeAt Go.RowKit
set_option linter.unusedVariables false
/-- A strings.Builder that the call has made, in block b, that holds the bytes l; its row of bytes lies at R or behind; p: what 'addr' holds. -/
def BldP (p : Value) (R b : Nat) (l : List UInt8) (w : World) : Prop :=
  b < R ∧ ∃ v, w.heap[b]? = some (.cells #[p, v] 100 (0, 0)) ∧ w.ownsRow R 5 1 v l.length (Lib.byteCells l)
/-- .. fresh or used. -/
def Bld (R b : Nat) (l : List UInt8) (w : World) : Prop := BldP (.pointer none) R b l w ∨ BldP (.pointer (some ⟨b, 0, none⟩)) R b l w
/-- Below R every block but b stands. -/
structure Fr (R b : Nat) (w w' : World) : Prop where
  os : w'.os = w.os
  tape : w'.tape = w.tape
  output : w'.output = w.output
  size : w.heap.size ≤ w'.heap.size
  block : ∀ k, k < R → k ≠ b → w'.heap[k]? = w.heap[k]?
theorem Fr.refl (R b : Nat) (w : World) : Fr R b w w := ⟨rfl, rfl, rfl, Nat.le_refl _, fun _ _ _ => rfl⟩
theorem Fr.trans {R b : Nat} {x y z : World} (h : Fr R b x y) (k : Fr R b y z) : Fr R b x z :=
  ⟨k.os.trans h.os, k.tape.trans h.tape, k.output.trans h.output, Nat.le_trans h.size k.size, fun i hi hb => (k.block i hi hb).trans (h.block i hi hb)⟩
theorem Fr.below {R b B : Nat} {w w' : World} (h : Fr R b w w') (hR : B ≤ R) (hb : B ≤ b) : Below B w w' := ⟨h.os, h.tape, h.output, h.size, fun k hk => h.block k (by omega) (by omega)⟩
theorem Fr.mono {R R' b : Nat} {w w' : World} (h : Fr R b w w') (hR : R' ≤ R) : Fr R' b w w' := ⟨h.os, h.tape, h.output, h.size, fun k hk hb => h.block k (by omega) hb⟩
theorem Fr.set {R b : Nat} {w w' : World} (h : Fr R b w w') (i : Nat) (v : Value) : Fr R b w (w'.setCell ⟨b, i, none⟩ v) :=
  ⟨h.os, h.tape, h.output, by have := h.size; simpa [World.setCell] using this, fun k hk hb => by rw [hp_other hb]; exact h.block k hk hb⟩
theorem ownsRow_base {w : World} {B B' : Nat} {e : TypeId} {c : Nat} {v : Value} {n : Nat} {xs : List Value} (h : w.ownsRow B e c v n xs) (hB : B' ≤ B) : w.ownsRow B' e c v n xs := by
  obtain ⟨hl, h2 | ⟨g, cap, cur, hv, hg, r⟩⟩ := h
  · exact ⟨hl, Or.inl h2⟩
  · exact ⟨hl, Or.inr ⟨g, cap, cur, hv, by omega, r⟩⟩
theorem Bld.p {R b : Nat} {l : List UInt8} {w : World} (h : Bld R b l w) : ∃ p, BldP p R b l w := by
  rcases h with h | h
  · exact ⟨_, h⟩
  · exact ⟨_, h⟩
theorem Bld.lt {R b : Nat} {l : List UInt8} {w : World} (h : Bld R b l w) : b < w.heap.size := by
  obtain ⟨p, hb, v, hh, ho⟩ := h.p
  exact lt_of hh
theorem BldP.alloc {p : Value} {R b : Nat} {l : List UInt8} {w : World} (h : BldP p R b l w) (o : Obj) : BldP p R b l (w.alloc o) := by
  obtain ⟨hb, v, hh, ho⟩ := h
  exact ⟨hb, v, hp_old hh, ho.alloc _⟩
theorem Bld.alloc {R b : Nat} {l : List UInt8} {w : World} (h : Bld R b l w) (o : Obj) : Bld R b l (w.alloc o) := by
  rcases h with h | h
  · exact Or.inl (h.alloc o)
  · exact Or.inr (h.alloc o)
theorem Bld.drewN {R b : Nat} {l : List UInt8} {w : World} (h : Bld R b l w) (n : Nat) : Bld R b l (w.drewN n) := h
/-- Below the heap's size every block stands: so does the builder. -/
theorem BldP.kept {p : Value} {R b : Nat} {l : List UInt8} {w w' : World} (h : BldP p R b l w) (hb : Below w.heap.size w w') : BldP p R b l w' := by
  obtain ⟨hb', v, hh, ho⟩ := h
  refine ⟨hb', v, (hb.block b (lt_of hh)).trans hh, ho.kept (row := none) (hb.gr none) ?_⟩
  cases hv : v.ownBlock with
  | none => exact Or.inl rfl
  | some k => exact Or.inr (by simp)
theorem Bld.kept {R b : Nat} {l : List UInt8} {w w' : World} (h : Bld R b l w) (hb : Below w.heap.size w w') : Bld R b l w' := by
  rcases h with h | h
  · exact Or.inl (h.kept hb)
  · exact Or.inr (h.kept hb)
theorem Bld.fresh (R : Nat) (w : World) (hR : w.heap.size < R) : Bld R w.heap.size [] (w.alloc (.cells #[.pointer none, .slice none 0 0] 100)) :=
  Or.inl ⟨hR, .slice none 0 0, hp_new w _, World.ownsRow_nil _ _ _ _⟩
theorem Bld.is {R b : Nat} {l : List UInt8} {w : World} (h : Bld R b l w) : Lib.IsBuilder 100 5 b b (Lib.byteCells l) w := by
  have aux : ∀ p, BldP p R b l w → Lib.BuilderAt 100 5 b b p (Lib.byteCells l) w := by
    rintro p ⟨hb, v, hh, ho⟩
    refine ⟨Nat.le_refl _, v, hh, ?_, ?_⟩
    · rw [Lib.byteCells_length]; exact ownsRow_base ho (by omega)
    · intro e
      have := (ho.lt b e).1
      omega
  rcases h with h | h
  · exact Or.inl (aux _ h)
  · exact Or.inr (aux _ h)
theorem sizeBuilder : (Tryz.prog.info? 100).map (·.size) = some 2 := by kernel_rfl
theorem liesBuilder : liesAt Tryz.prog Tryz.prog.depth 100 (2 / Tryz.prog.cellsOf 100) 0 100 1 = true := by kernel_rfl
set_option maxHeartbeats 2000000 in
set_option maxRecDepth 100000 in
theorem copyCheck_used (b : Nat) (w : World) (h0 : w.cell? ⟨b, 0, none⟩ = some (.pointer (some ⟨b, 0, none⟩))) :
    Calls Tryz.prog 127 #[.pointer (some ⟨b, 0, none⟩)] w fun e w' => e = .returned (.tuple #[]) ∧ w' = w := by
  obtain ⟨j, hj, _⟩ := Option.map_eq_some_iff.1 sizeBuilder
  go_enter Tryz.func127, Tryz.ntmps127
  go_wp2
  rw [Lib.run_neq_ptr_same w _ Tryz.underlying98 hj]
  go_wp2
  go_end0
  exact ⟨rfl, rfl⟩
set_option maxHeartbeats 2000000 in
set_option maxRecDepth 100000 in
theorem copyCheck_fresh (b : Nat) (w : World) (h0 : w.cell? ⟨b, 0, none⟩ = some (.pointer none)) (hsh : w.shape? b = some (100, 2)) (hfz : w.frozen? ⟨b, 0, none⟩ = false) :
    Calls Tryz.prog 127 #[.pointer (some ⟨b, 0, none⟩)] w fun e w' => e = .returned (.tuple #[]) ∧ w' = w.setCell ⟨b, 0, none⟩ (.pointer (some ⟨b, 0, none⟩)) := by
  obtain ⟨j, hj, hjs⟩ := Option.map_eq_some_iff.1 sizeBuilder
  go_enter Tryz.func127, Tryz.ntmps127
  go_wp2
  rw [Lib.run_to_unsafe w ⟨b, 0, none⟩ Tryz.underlying98 Tryz.underlying247 hj (by rw [hjs]; decide) hsh (Nat.zero_lt_succ 1)]
  simp only [Result.andThen]
  rw [Oper.upon_value]
  go_wp2
  rw [run_callFunc_extern Tryz.func166 (by kernel_rfl) (by kernel_rfl) (by kernel_rfl) (e := Extern.AbiNoEscape.same) (by kernel_rfl)]
  rw [Lib.run_noEscape]
  simp only [Result.andThen]
  rw [Oper.upon_value]
  go_wp2
  rw [Lib.run_from_unsafe w ⟨b, 0, none⟩ Tryz.underlying247 Tryz.underlying98 hj hsh liesBuilder]
  simp only [Result.andThen]
  rw [Oper.upon_value]
  go_wp2
  go_end0
  exact ⟨rfl, rfl⟩
/-- (*strings.Builder).copyCheck: behind it the builder is used. -/
theorem copyCheck_b (R b : Nat) (l : List UInt8) (w : World) (h : Bld R b l w) :
    Calls Tryz.prog 127 #[.pointer (some ⟨b, 0, none⟩)] w fun e w' => e = .returned (.tuple #[]) ∧ BldP (.pointer (some ⟨b, 0, none⟩)) R b l w' ∧ Fr R b w w' := by
  rcases h with ⟨hb, v, hh, ho⟩ | h
  · refine (copyCheck_fresh b w (by rw [cell_of 0 hh]; rfl) (by simp [World.shape?, hh]) (free_of 0 hh)).mono ?_
    rintro e w' ⟨rfl, rfl⟩
    refine ⟨rfl, ⟨hb, v, ?_, ?_⟩, (Fr.refl R b w).set 0 _⟩
    · rw [hp_set hh]; rfl
    · refine ho.kept (row := some b) ((gr_refl w (some b)).setCell 0 _) (Or.inr ?_)
      intro e
      have := (ho.lt b e).1
      omega
  · obtain ⟨hb, v, hh, ho⟩ := h
    refine (copyCheck_used b w (by rw [cell_of 0 hh]; rfl)).mono ?_
    rintro e w' ⟨rfl, rfl⟩
    exact ⟨rfl, ⟨hb, v, hh, ho⟩, Fr.refl R b _⟩
theorem byteCells_snoc (l : List UInt8) (c : UInt8) : Lib.byteCells l ++ [.int .u8 (c.toNat : Int)] = Lib.byteCells (l ++ [c]) := by simp [Lib.byteCells]
set_option maxHeartbeats 4000000 in
set_option maxRecDepth 100000 in
/-- (*strings.Builder).WriteByte. -/
theorem writeByte_b (R b : Nat) (l : List UInt8) (c : UInt8) (w : World) (h : Bld R b l w) (hlen : l.length + 1 ≤ 140737488355328) (hRw : R ≤ w.heap.size) :
    Calls Tryz.prog 101 #[.pointer (some ⟨b, 0, none⟩), .int .u8 c.toNat] w fun e w' => e = .returned .nilIface ∧ Bld R b (l ++ [c]) w' ∧ Fr R b w w' := by
  obtain ⟨i0, hi, hz0, hz1, hz2⟩ := info_parts (show (Tryz.prog.info? 5).map (fun i => (i.zero, i.size, i.bytes)) = some (some (.int .u8 0), 1, 1) by kernel_rfl)
  have hsn := byteCells_snoc l c
  have HSN := Lib.hid hsn
  clear hsn
  generalize (c.toNat : Int) = cn at *
  go_enter Tryz.func101, Tryz.ntmps101
  go_wp2_with fail
  refine (copyCheck_b R b l _ h).mono ?_
  rintro e w1 ⟨rfl, ⟨hbR, v, hbk, hown⟩, hf1⟩
  have c0 : w1.cell? ⟨b, 0, none⟩ = some (.pointer (some ⟨b, 0, none⟩)) := by rw [cell_of 0 hbk]; rfl
  have c1 : w1.cell? ⟨b, 1, none⟩ = some v := by rw [cell_of 1 hbk]; rfl
  have hs1 := hf1.size
  go_wp2_with (at_builtin; refine wpList_append_own _ rfl _ _ 50 rfl R 5 i0 (.int .u8 0) 1 1 Tryz.underlying50 hi hz0 hz1 hz2 rfl (by decide) _ _ _ rfl (hown.alloc _) ⟨w1.heap.size, 0, none⟩ 1 1 [.int .u8 cn] rfl rfl ?c1 ?c2 ?c3 ?c4 ?c5 ?_)
  case c1 =>
    intro j u hj
    match j, hj with
    | 0, hj => simp at hj; subst hj; simp [Addr.add]
  case c2 => intro u hu; simp at hu; subst hu; rfl
  case c3 => unfold maxLen; omega
  case c4 => omega
  case c5 => simp; omega
  intro v' w2 hown' hgrow _
  have hlt : b < w1.heap.size := lt_of hbk
  have hne : some b ≠ v.ownBlock := by
    intro e
    have := (hown.lt b e.symm).1
    omega
  have hb2 : w2.heap[b]? = some (.cells #[.pointer (some ⟨b, 0, none⟩), v] 100 (0, 0)) := by
    rw [hgrow.block b (by simp; omega) hne]
    exact hp_old hbk
  have d0 : w2.cell? ⟨b, 0, none⟩ = some (.pointer (some ⟨b, 0, none⟩)) := by rw [cell_of 0 hb2]; rfl
  have d1 : w2.cell? ⟨b, 1, none⟩ = some v := by rw [cell_of 1 hb2]; rfl
  have f1 : w2.frozen? ⟨b, 1, none⟩ = false := free_of 1 hb2
  have hF2 : Fr R b w w2 := hf1.trans ⟨hgrow.os, hgrow.tape, hgrow.output, by have := hgrow.size; simp at this; omega, fun k hk hkb => by
    rw [hgrow.block k (by simp; omega) (fun e => by have := (hown.lt k e.symm).1; omega)]
    exact Below.heap_alloc _ _ _ (by omega)⟩
  obtain ⟨g, cap, rfl⟩ : ∃ g cap, v' = .slice (some ⟨g, 0, none⟩) (l.length + 1) cap := by
    rcases hown'.2 with ⟨_, h0⟩ | ⟨g, cap, cur, hv, _⟩
    · omega
    · exact ⟨g, cap, hv⟩
  have HF2 := Lib.hid hF2
  have HO := Lib.hid hown'
  clear hF2 hown' hgrow hown h hf1 hbk
  go_wp2
  go_ret
  refine ⟨rfl, Or.inr ⟨hbR, _, by rw [hp_set hb2]; rfl, ?_⟩, HF2.out.set 1 _⟩
  have ho2 := HO.out
  rw [HSN.out] at ho2
  rw [List.length_append]
  refine ho2.kept (row := some b) ((gr_refl w2 (some b)).setCell 1 _) (Or.inr ?_)
  intro e
  have := (ho2.lt b e).1
  omega
set_option maxHeartbeats 4000000 in
set_option maxRecDepth 100000 in
/-- (*strings.Builder).WriteString. -/
theorem writeString_b (R b : Nat) (l s : List UInt8) (w : World) (h : Bld R b l w) (hlen : l.length + s.length ≤ 140737488355328) (hRw : R ≤ w.heap.size) :
    Calls Tryz.prog 77 #[.pointer (some ⟨b, 0, none⟩), .string ⟨s.toArray⟩] w fun e w' => e = .returned (.tuple #[.int .i64 s.length, .nilIface]) ∧ Bld R b (l ++ s) w' ∧ Fr R b w w' := by
  obtain ⟨i0, hi, hz0, hz1, hz2⟩ := info_parts (show (Tryz.prog.info? 5).map (fun i => (i.zero, i.size, i.bytes)) = some (some (.int .u8 0), 1, 1) by kernel_rfl)
  have hss : (⟨s.toArray⟩ : ByteArray).size = s.length := by simp [ByteArray.size]
  have HSS := Lib.hid hss
  have hsc : Lib.strCells ⟨s.toArray⟩ = Lib.byteCells s := by simp [Lib.strCells, Lib.byteCells]
  have HSC := Lib.hid hsc
  have hle : (⟨s.toArray⟩ : ByteArray).size + l.length ≤ 140737488355328 := by omega
  have hsn : Lib.byteCells l ++ Lib.byteCells s = Lib.byteCells (l ++ s) := by simp [Lib.byteCells]
  have HSN := Lib.hid hsn
  rw [← hss]
  clear hss hsn hsc hlen
  generalize (⟨s.toArray⟩ : ByteArray) = sa at *
  go_enter Tryz.func77, Tryz.ntmps77
  go_wp2_with fail
  refine (copyCheck_b R b l _ h).mono ?_
  rintro e w1 ⟨rfl, ⟨hbR, v, hbk, hown⟩, hf1⟩
  have c0 : w1.cell? ⟨b, 0, none⟩ = some (.pointer (some ⟨b, 0, none⟩)) := by rw [cell_of 0 hbk]; rfl
  have c1 : w1.cell? ⟨b, 1, none⟩ = some v := by rw [cell_of 1 hbk]; rfl
  have hs1 := hf1.size
  go_wp2_with (at_builtin; refine Lib.wpList_append_own_string _ rfl _ _ 50 9 rfl R 5 i0 Tryz.underlying50 Tryz.underlying9 hi hz0 hz1 hz2 _ _ _ rfl hown sa rfl ?c3 ?c4 ?c5 ?_)
  case c3 => unfold maxLen; omega
  case c4 => omega
  case c5 => omega
  intro v' w2 hown' hgrow _
  have hlt : b < w1.heap.size := lt_of hbk
  have hne : some b ≠ v.ownBlock := by
    intro e
    have := (hown.lt b e.symm).1
    omega
  have hb2 : w2.heap[b]? = some (.cells #[.pointer (some ⟨b, 0, none⟩), v] 100 (0, 0)) := by
    rw [hgrow.block b hlt hne]
    exact hbk
  have d0 : w2.cell? ⟨b, 0, none⟩ = some (.pointer (some ⟨b, 0, none⟩)) := by rw [cell_of 0 hb2]; rfl
  have d1 : w2.cell? ⟨b, 1, none⟩ = some v := by rw [cell_of 1 hb2]; rfl
  have f1 : w2.frozen? ⟨b, 1, none⟩ = false := free_of 1 hb2
  have hF2 : Fr R b w w2 := hf1.trans ⟨hgrow.os, hgrow.tape, hgrow.output, hgrow.size, fun k hk hkb => hgrow.block k (by omega) (fun e => by have := (hown.lt k e.symm).1; omega)⟩
  obtain ⟨ao, n', cap, rfl⟩ : ∃ ao n' cap, v' = .slice ao n' cap := by
    rcases hown'.2 with ⟨hv, _⟩ | ⟨g, cap, cur, hv, _⟩
    · exact ⟨_, _, _, hv⟩
    · exact ⟨_, _, _, hv⟩
  have HF2 := Lib.hid hF2
  have HO := Lib.hid hown'
  clear hF2 hown' hgrow hown h hf1 hbk
  go_wp2
  go_ret2
  refine ⟨rfl, Or.inr ⟨hbR, _, by rw [hp_set hb2]; rfl, ?_⟩, HF2.out.set 1 _⟩
  have ho2 := HO.out
  rw [HSC.out, HSN.out, HSS.out] at ho2
  rw [List.length_append]
  refine ho2.kept (row := some b) ((gr_refl w2 (some b)).setCell 1 _) (Or.inr ?_)
  intro e
  have := (ho2.lt b e).1
  omega
/-- (*strings.Builder).String. -/
theorem string_b (R b : Nat) (l : List UInt8) (w : World) (h : Bld R b l w) :
    Calls Tryz.prog 46 #[.pointer (some ⟨b, 0, none⟩)] w fun e w' => e = .returned (.string ⟨l.toArray⟩) ∧ Below b w w' := Tryz.Builder_String_any b b l w h.is (by have := h.lt; omega)
end Go.Proofs.YthihkbcdihochaaGreatDoor
/- cref.Escape. -/
namespace Go.Proofs.YthihkbcdihochaaGreatDoor
open Go.ChangeShapes Go.WideShapes Go.ChangeAt Go.RowKit
set_option linter.unusedVariables false
/-- '[]byte(s)'. -/
theorem toBytes (w : World) (l : List UInt8) (hl : l.length ≤ 1000000) : ∃ c w', (convert 9 50 (.string ⟨l.toArray⟩)).run Tryz.prog w = .ok (.slice (some ⟨w.heap.size, 0, none⟩) l.length c) w' ∧ Below w.heap.size w w' ∧ w'.heap.size = w.heap.size + 1 ∧ Byt w' (w.heap.size + 1) (some ⟨w.heap.size, 0, none⟩) l.length c l := by
  have hsz : (⟨l.toArray⟩ : ByteArray).size = l.length := by simp [ByteArray.size]
  refine ⟨_, _, (by have := Lib.run_convert_string_bytes (P := Tryz.prog) w 9 50 5 ⟨l.toArray⟩ Tryz.underlying9 Tryz.underlying50 Tryz.underlying5; rw [hsz] at this; exact this), Lib.bytesWorld_below _ _ _, Lib.bytesWorld_size _ _ _, ⟨by simp, grownCap_ge _ _ _ _, grownCap_le_maxLen _ _ _ _ (by unfold maxLen; omega), (fun e => by cases e), fun _ => ⟨_, _, rfl, by omega, fun i u hu => ?_⟩⟩⟩
  have hi : i < l.length := by
    rcases Nat.lt_or_ge i l.length with h' | h'
    · exact h'
    · rw [List.getElem?_eq_none (by simpa using h')] at hu; cases hu
  rw [Nat.zero_add, Lib.bytesWorld_cell _ _ _ _ (by rw [hsz]; exact hi)]
  rw [List.getElem?_map, List.getElem?_eq_getElem hi] at hu
  simp only [Option.map_some, Option.some.injEq] at hu
  rw [← hu]
  simp [bv, hi]
/-- One byte, escaped. -/
def escB (c : UInt8) : List UInt8 :=
  if c = 38 then [38, 97, 109, 112, 59] else if c = 60 then [38, 108, 116, 59] else if c = 62 then [38, 103, 116, 59] else if c = 34 then [38, 113, 117, 111, 116, 59]
  else if c = 13 then [38, 35, 49, 51, 59] else if c = 10 then [38, 35, 49, 48, 59] else if c = 9 then [38, 35, 57, 59] else [c]
def esc (l : List UInt8) : List UInt8 := l.flatMap escB
theorem escB_le (c : UInt8) : (escB c).length ≤ 6 ∧ 1 ≤ (escB c).length := by unfold escB; (repeat' split) <;> simp
theorem esc_le (l : List UInt8) : (esc l).length ≤ 6 * l.length := by
  induction l with
  | nil => simp [esc]
  | cons c t ih =>
    have := (escB_le c).1
    simp only [esc, List.flatMap_cons, List.length_append, List.length_cons] at *
    omega
theorem esc_snoc (l : List UInt8) (c : UInt8) : esc (l ++ [c]) = esc l ++ escB c := by simp [esc]
theorem ne_byte (c n : UInt8) (z : Int) (hz : z = (n.toNat : Int)) (h : ¬ c = n) : ((c.toNat : Int) == z) = false := by rw [hz, toNat_eq]; simp [h]
theorem itoa_small (i : Nat) (hi : i < 100) (w : World) : Calls Tryz.prog 79 #[.int .i64 i] w fun e w' => e = .returned (.string ⟨(Lib.decDigits i).toArray⟩) ∧ w = w' :=
  (Tryz.strconv_Itoa_small i hi w).mono fun e w' ⟨he, hw⟩ => ⟨he, hw.symm⟩
set_option maxRecDepth 100000 in
set_option maxHeartbeats 16000000 in
theorem escape_c (l : List UInt8) (w : World) (hm : l.length ≤ 1000000) :
    Calls Tryz.prog 52 #[.string ⟨l.toArray⟩] w fun e w' => e = .returned (.string ⟨(esc l).toArray⟩) ∧ Below w.heap.size w w' := by
  have hB := Bld.fresh (w.heap.size + 2) w (by omega)
  have hb0 : Below w.heap.size w (w.alloc (.cells #[.pointer none, .slice none 0 0] 100)) := (Below.refl _ _).alloc (Nat.le_refl _) _
  have hs0 : (w.alloc (.cells #[.pointer none, .slice none 0 0] 100)).heap.size = w.heap.size + 1 := by simp
  obtain ⟨c, w2, hcv, hb2, hs2, hby⟩ := toBytes (w.alloc (.cells #[.pointer none, .slice none 0 0] 100)) l hm
  rw [hs0] at hcv hb2 hs2 hby
  have hB2 := hB.kept (by rw [hs0]; exact hb2)
  have hbw := hb0.trans (hb2.mono (by omega))
  have hcell : ∀ (wr : World), Fr (w.heap.size + 2) w.heap.size w2 wr → ∀ k, k < l.length → wr.cell? ⟨w.heap.size + 1, k, none⟩ = some (.int .u8 (UInt8.toNat (l.getD k 0) : Int)) := fun wr hf k hk => by
    obtain ⟨b, o, c, e, hb, hc, hcl⟩ := hby.cell hk
    cases e
    rw [World.cell?_of_block (w := w2) (a := ⟨w.heap.size + 1, k, none⟩) (hf.block (w.heap.size + 1) (by omega) (by omega))]
    rw [Nat.zero_add] at hcl
    rw [hcl, List.getD_eq_getElem?_getD, hc]
    rfl
  have HC := Lib.hid hcell
  have HB2 := Lib.hid (And.intro hB2 hbw)
  have HS2 := Lib.hid hs2
  clear hB hb0 hs0 hB2 hb2 hs2 hby hbw hcell
  generalize hwS : w.heap.size = S at *
  go_enter Tryz.func52, Tryz.ntmps52
  go_wp2
  go_loopw [9] (fun i wr => ∃ k : Nat, k ≤ l.length ∧ i = .int .i64 k ∧ Hid (Bld (S + 2) S (esc (l.take k)) wr ∧ Fr (S + 2) S w2 wr)) (fun i _ => l.length - (intOf i).toNat)
  case atStart => exact ⟨0, Nat.zero_le _, rfl, Lib.hid ⟨HB2.out.1, Fr.refl _ _ _⟩⟩
  case round =>
    obtain ⟨k, hk, rfl, I⟩ := hrel
    by_cases hlt : k < l.length
    · have hcl := HC.out _ I.out.2 k hlt
      have HSN : Hid (esc (l.take (k + 1)) = esc (l.take k) ++ escB (l.getD k 0)) := Lib.hid (by
        rw [take_snoc l k (l.getD k 0) (by simp [hlt]), esc_snoc])
      have HLE : Hid ((esc (l.take k)).length + 6 ≤ 140737488355328) := Lib.hid (by have := esc_le (l.take k); rw [List.length_take] at this; omega)
      have HSZ : Hid (S + 2 ≤ wr.heap.size) := Lib.hid (by have := I.out.2.size; have := HS2.out; omega)
      generalize l.getD k 0 = d at *
      by_cases h0 : d = 38
      · have HEB : Hid (escB d = [38, 97, 109, 112, 59]) := Lib.hid (by subst h0; rfl)
        have hdn : (d.toNat : Int) = 38 := by subst h0; rfl
        rw [hdn] at hcl
        clear hdn
        go_wp2_with fail
        refine (writeString_b (S + 2) S (esc (l.take k)) [38, 97, 109, 112, 59] _ I.out.1 (by have := HLE.out; simp; omega) HSZ.out).mono ?_
        rintro e w3 ⟨rfl, hb3, hf3⟩
        have HN : Hid (Bld (S + 2) S (esc (l.take (k + 1))) w3 ∧ Fr (S + 2) S w2 w3) := Lib.hid ⟨by rw [HSN.out, HEB.out]; exact hb3, I.out.2.trans hf3⟩
        clear hb3 hf3
        go_wp2
        go_roundw
        case rel => exact ⟨k + 1, by omega, by go_num, HN⟩
        case measure => simp [intOf]; omega
      · have e0 : ((d.toNat : Int) == 38) = false := ne_byte d 38 38 rfl h0
        by_cases h1 : d = 60
        · have HEB : Hid (escB d = [38, 108, 116, 59]) := Lib.hid (by subst h1; rfl)
          have hdn : (d.toNat : Int) = 60 := by subst h1; rfl
          rw [hdn] at hcl
          clear hdn
          go_wp2_with fail
          refine (writeString_b (S + 2) S (esc (l.take k)) [38, 108, 116, 59] _ I.out.1 (by have := HLE.out; simp; omega) HSZ.out).mono ?_
          rintro e w3 ⟨rfl, hb3, hf3⟩
          have HN : Hid (Bld (S + 2) S (esc (l.take (k + 1))) w3 ∧ Fr (S + 2) S w2 w3) := Lib.hid ⟨by rw [HSN.out, HEB.out]; exact hb3, I.out.2.trans hf3⟩
          clear hb3 hf3
          go_wp2
          go_roundw
          case rel => exact ⟨k + 1, by omega, by go_num, HN⟩
          case measure => simp [intOf]; omega
        · have e1 : ((d.toNat : Int) == 60) = false := ne_byte d 60 60 rfl h1
          by_cases h2 : d = 62
          · have HEB : Hid (escB d = [38, 103, 116, 59]) := Lib.hid (by subst h2; rfl)
            have hdn : (d.toNat : Int) = 62 := by subst h2; rfl
            rw [hdn] at hcl
            clear hdn
            go_wp2_with fail
            refine (writeString_b (S + 2) S (esc (l.take k)) [38, 103, 116, 59] _ I.out.1 (by have := HLE.out; simp; omega) HSZ.out).mono ?_
            rintro e w3 ⟨rfl, hb3, hf3⟩
            have HN : Hid (Bld (S + 2) S (esc (l.take (k + 1))) w3 ∧ Fr (S + 2) S w2 w3) := Lib.hid ⟨by rw [HSN.out, HEB.out]; exact hb3, I.out.2.trans hf3⟩
            clear hb3 hf3
            go_wp2
            go_roundw
            case rel => exact ⟨k + 1, by omega, by go_num, HN⟩
            case measure => simp [intOf]; omega
          · have e2 : ((d.toNat : Int) == 62) = false := ne_byte d 62 62 rfl h2
            by_cases h3 : d = 34
            · have HEB : Hid (escB d = [38, 113, 117, 111, 116, 59]) := Lib.hid (by subst h3; rfl)
              have hdn : (d.toNat : Int) = 34 := by subst h3; rfl
              rw [hdn] at hcl
              clear hdn
              go_wp2_with fail
              refine (writeString_b (S + 2) S (esc (l.take k)) [38, 113, 117, 111, 116, 59] _ I.out.1 (by have := HLE.out; simp; omega) HSZ.out).mono ?_
              rintro e w3 ⟨rfl, hb3, hf3⟩
              have HN : Hid (Bld (S + 2) S (esc (l.take (k + 1))) w3 ∧ Fr (S + 2) S w2 w3) := Lib.hid ⟨by rw [HSN.out, HEB.out]; exact hb3, I.out.2.trans hf3⟩
              clear hb3 hf3
              go_wp2
              go_roundw
              case rel => exact ⟨k + 1, by omega, by go_num, HN⟩
              case measure => simp [intOf]; omega
            · have e3 : ((d.toNat : Int) == 34) = false := ne_byte d 34 34 rfl h3
              by_cases h4 : d = 13
              · have HEB : Hid (escB d = [38, 35, 49, 51, 59]) := Lib.hid (by subst h4; rfl)
                have hdn : (d.toNat : Int) = 13 := by subst h4; rfl
                rw [hdn] at hcl
                clear hdn
                go_wp2_with fail
                have hit := itoa_small 13 (by decide) wr
                rw [show Lib.decDigits 13 = [49, 51] by decide +kernel] at hit
                refine hit.mono ?_
                rintro e w4 ⟨rfl, rfl⟩
                clear hit
                go_wp2_with fail
                refine (writeString_b (S + 2) S (esc (l.take k)) [38, 35, 49, 51, 59] _ I.out.1 (by have := HLE.out; simp; omega) HSZ.out).mono ?_
                rintro e w3 ⟨rfl, hb3, hf3⟩
                have HN : Hid (Bld (S + 2) S (esc (l.take (k + 1))) w3 ∧ Fr (S + 2) S w2 w3) := Lib.hid ⟨by rw [HSN.out, HEB.out]; exact hb3, I.out.2.trans hf3⟩
                clear hb3 hf3
                go_wp2
                go_roundw
                case rel => exact ⟨k + 1, by omega, by go_num, HN⟩
                case measure => simp [intOf]; omega
              · have e4 : ((d.toNat : Int) == 13) = false := ne_byte d 13 13 rfl h4
                by_cases h5 : d = 10
                · have HEB : Hid (escB d = [38, 35, 49, 48, 59]) := Lib.hid (by subst h5; rfl)
                  have hdn : (d.toNat : Int) = 10 := by subst h5; rfl
                  rw [hdn] at hcl
                  clear hdn
                  go_wp2_with fail
                  have hit := itoa_small 10 (by decide) wr
                  rw [show Lib.decDigits 10 = [49, 48] by decide +kernel] at hit
                  refine hit.mono ?_
                  rintro e w4 ⟨rfl, rfl⟩
                  clear hit
                  go_wp2_with fail
                  refine (writeString_b (S + 2) S (esc (l.take k)) [38, 35, 49, 48, 59] _ I.out.1 (by have := HLE.out; simp; omega) HSZ.out).mono ?_
                  rintro e w3 ⟨rfl, hb3, hf3⟩
                  have HN : Hid (Bld (S + 2) S (esc (l.take (k + 1))) w3 ∧ Fr (S + 2) S w2 w3) := Lib.hid ⟨by rw [HSN.out, HEB.out]; exact hb3, I.out.2.trans hf3⟩
                  clear hb3 hf3
                  go_wp2
                  go_roundw
                  case rel => exact ⟨k + 1, by omega, by go_num, HN⟩
                  case measure => simp [intOf]; omega
                · have e5 : ((d.toNat : Int) == 10) = false := ne_byte d 10 10 rfl h5
                  by_cases h6 : d = 9
                  · have HEB : Hid (escB d = [38, 35, 57, 59]) := Lib.hid (by subst h6; rfl)
                    have hdn : (d.toNat : Int) = 9 := by subst h6; rfl
                    rw [hdn] at hcl
                    clear hdn
                    go_wp2_with fail
                    have hit := itoa_small 9 (by decide) wr
                    rw [show Lib.decDigits 9 = [57] by decide +kernel] at hit
                    refine hit.mono ?_
                    rintro e w4 ⟨rfl, rfl⟩
                    clear hit
                    go_wp2_with fail
                    refine (writeString_b (S + 2) S (esc (l.take k)) [38, 35, 57, 59] _ I.out.1 (by have := HLE.out; simp; omega) HSZ.out).mono ?_
                    rintro e w3 ⟨rfl, hb3, hf3⟩
                    have HN : Hid (Bld (S + 2) S (esc (l.take (k + 1))) w3 ∧ Fr (S + 2) S w2 w3) := Lib.hid ⟨by rw [HSN.out, HEB.out]; exact hb3, I.out.2.trans hf3⟩
                    clear hb3 hf3
                    go_wp2
                    go_roundw
                    case rel => exact ⟨k + 1, by omega, by go_num, HN⟩
                    case measure => simp [intOf]; omega
                  · have e6 : ((d.toNat : Int) == 9) = false := ne_byte d 9 9 rfl h6
                    have HEB : Hid (escB d = [d]) := Lib.hid (by unfold escB; simp [h0, h1, h2, h3, h4, h5, h6])
                    go_wp2_with fail
                    refine (writeByte_b (S + 2) S (esc (l.take k)) d _ I.out.1 (by have := HLE.out; omega) HSZ.out).mono ?_
                    rintro e w3 ⟨rfl, hb3, hf3⟩
                    have HN : Hid (Bld (S + 2) S (esc (l.take (k + 1))) w3 ∧ Fr (S + 2) S w2 w3) := Lib.hid ⟨by rw [HSN.out, HEB.out]; exact hb3, I.out.2.trans hf3⟩
                    clear hb3 hf3
                    go_wp2
                    go_roundw
                    case rel => exact ⟨k + 1, by omega, by go_num, HN⟩
                    case measure => simp [intOf]; omega
    · obtain rfl : k = l.length := by omega
      have hst := string_b (S + 2) S (esc l) wr (by have := I.out.1; rwa [List.take_length] at this)
      go_wp2_with fail
      refine hst.mono ?_
      rintro e w3 ⟨rfl, hb3⟩
      have HN : Hid (Below S w w3) := Lib.hid (HB2.out.2.trans ((I.out.2.below (by omega) (Nat.le_refl _)).trans hb3))
      clear hb3 hst
      go_wp2
      go_ret
      exact ⟨rfl, HN.out⟩
end Go.Proofs.YthihkbcdihochaaGreatDoor
/- Plain law of texts between marks. -/
namespace Go.Proofs.YthihkbcdihochaaGreatDoor
open Go.ChangeShapes Go.WideShapes Go.ChangeAt Go.RowKit
set_option linter.unusedVariables false
theorem bfalse {b : Bool} (h : ¬ b = true) : b = false := by
  cases b with
  | false => rfl
  | true => exact absurd rfl h
def mayComment (s : List UInt8) : Bool := !Lib.contains (s ++ [45]) [45, 45]
end Go.Proofs.YthihkbcdihochaaGreatDoor
/- A result in a block of its own. -/
namespace Go.Proofs.YthihkbcdihochaaGreatDoor
open Go.ChangeShapes Go.WideShapes Go.ChangeAt Go.RowKit
set_option linter.unusedVariables false
/-- While a result lies in a block of its own: below w all as it was, and that block. -/
def CJ (T : TypeId) (w W : World) (rs : Array Value) : Prop := Below w.heap.size w W ∧ W.heap[w.heap.size]? = some (.cells rs T)
theorem CJ.start (T : TypeId) (w : World) (rs : Array Value) : CJ T w (w.alloc (.cells rs T)) rs := ⟨(Below.refl _ _).alloc (Nat.le_refl _) _, hp_new _ _⟩
theorem CJ.kept {T : TypeId} {w W W' : World} {rs : Array Value} (h : CJ T w W rs) (hb : Below W.heap.size W W') : CJ T w W' rs :=
  ⟨h.1.trans (hb.mono h.1.size), by rw [hb.block _ (lt_of h.2)]; exact h.2⟩
theorem CJ.row {T : TypeId} {w W : World} {rs : Array Value} (h : CJ T w W rs) (cs : Array Value) : CJ T w (W.setRow w.heap.size cs) cs := by
  refine ⟨⟨h.1.os, h.1.tape, h.1.output, ?_, fun k hk => ?_⟩, setRow_heap _ _ _ _ _ _ h.2⟩
  · have := h.1.size; simpa [World.setRow] using this
  · rw [setRow_other _ _ _ _ (by omega)]; exact h.1.block k hk
end Go.Proofs.YthihkbcdihochaaGreatDoor
