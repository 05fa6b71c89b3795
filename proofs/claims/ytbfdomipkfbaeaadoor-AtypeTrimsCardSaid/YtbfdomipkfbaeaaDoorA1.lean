/- Texts of ours, joined: Shelf, Base, CharPlain, Str, Build, Esc, Bits, Utf1. -/
import Derived.Shelf.Strings.Builder1
import Derived.Shelf.Strings.Builder2
import Derived.Shelf.Strings.OnBuilder
import Derived.Shelf.Small.Utf8
import Derived.Shelf.Small.Strs
import Derived.Shelf.Strings.BuilderF
import Derived.Shelf.Strings.BuilderK
import Derived.Shelf.Strings.Builder2Cap
import Derived.Shelf.Strconv.Itoa0
import Derived.Shelf.Strconv.Itoa1
import Derived.Shelf.LaysM
import Derived.Shelf.Strconv.Itoa2
import Derived.Shelf.Strconv.Itoa3
import Derived.Shelf.Strings.Search1
import Derived.Shelf.Strings.Search2
import Derived.Shelf.Strings.Search3
import Derived.Shelf.Strings.Shaped
import Derived.Shelf.Strings.Fold
import Derived.Shelf.Unicode.Decode
import Derived.Shelf.Unicode.DecodeSlow
import Derived.Shelf.Unicode.DecodeAny
import Derived.Shelf.Unicode.CaseLookup
import Derived.Shelf.Unicode.CaseConvert
import Derived.Shelf.Slices.Turned
import Derived.Shelf.Slices.Equal
import Derived.Shelf.Bytes.SlIndexAt
import Derived.Shelf.Slices.Empties2
import Derived.Shelf.Bytes.SlSearch0
import Derived.Shelf.Bytes.SlSmallAll
import Derived.Shelf.Bytes.SlEqualAll
import Derived.Shelf.Bytes.Small
import Derived.Shelf.Bytes.IndexByte
import Derived.Test.YtbfdomipkfbaeaaDoorProg
import Derived.Test.YtbfdomipkfbaeaaDoorRows
import Derived.WalkKit
import Derived.ProofKit
import Derived.OpenShut
import Derived.ShutString
import Derived.ChangeOld
import Derived.Below
import Derived.BigQuiet
import Derived.Deep.QuietTactic
import Derived.Lib.Hide
import Derived.Deep.RegionHeld3
import Derived.Lib.SlBytesConst
import Derived.Laws.CopyOwn
import Derived.Laws.CopyRow
import Derived.Lib.Bytes
import Derived.Deep.LoopGhost
import Derived.Deep.DeepFit
import Derived.Deep.DeepMust
import Derived.WalkSpells
import Derived.WalkLawsBesides
import Derived.Lib.ItoaNum
import Derived.Laws.EntriesVeiled
import Derived.Laws.Rows
import Derived.Lib.Builder
import Derived.Lib.AppendStr
import Derived.Lib.UnsafeStr
import Derived.Laws.Externs
import Derived.Lib.ConvBytes
import Derived.Lib.AtoiErrMem
/-
  DERIVED: THE SHELF's CONTRACTS AT THIS DUMP, IN PLAIN WORDS (tools/lay-plain.mjs out of 'TrydShelf.lean', which tools/lay-shelf.mjs wrote): THE SAME DECLARATIONS UNDER THE SAME NAMES: 'import', 'namespace', 'open', 'def', 'theorem' AND NOTHING ELSE: no command of the shelf's: FOR A HAND-IN. Each laying: the table of numbers ('.._ren') and one theorem, a field a fact of the dump's own or the kernel's comparison; each contract: ONE APPLICATION.
-/
namespace Go.Proofs
open Go.Shelf
def Tryd.lays137_ren : Go.Shelf.Ren := ⟨fun | 137 => 158 | 217 => 168 | 266 => 180 | n => n, fun | 9 => 9 | 5 => 5 | 3 => 3 | n => n, fun | n => n⟩
theorem Tryd.lays137 : Go.Proofs.Lays.n137 Tryd.prog Tryd.lays137_ren := {
  mixed := by kernel_rfl
  f137 := Tryd.func158.trans (congrArg some (by kernel_rfl))
  f217 := Tryd.func168.trans (congrArg some (by kernel_rfl))
  f266 := Tryd.func180.trans (congrArg some (by kernel_rfl))
  t3 := Tryd.underlying3
  a3 := Tryd.isAgg3
  z3 := Tryd.sizeOf3
  v3 := Tryd.zeroValue3
  t5 := Tryd.underlying5
  a5 := Tryd.isAgg5
  z5 := Tryd.sizeOf5
  v5 := Tryd.zeroValue5
  t9 := Tryd.underlying9
  a9 := Tryd.isAgg9
  z9 := Tryd.sizeOf9
  v9 := Tryd.zeroValue9 }
open Go.RowKit in
/-- strings.IndexByte: "IndexByte returns the index of the first instance of c in s, or -1 if c is not present in s.": IT RETURNS 'Lib.indexByte s c'; the world is as it was. (LAID: no walk: one application.) -/
theorem Tryd.strings_IndexByte (s : ByteArray) (c : Int) (w : World) :
    Calls Tryd.prog 158 #[.string s, .int .u8 c] w fun e w' => e = .returned (.int .i64 (Lib.indexByte s.data.toList c.toNat.toUInt8)) ∧ w' = w := Any.strings_IndexByte Tryd.lays137 s c w
def Tryd.lays193_ren : Go.Shelf.Ren := ⟨fun | 193 => 48 | n => n, fun | 31 => 23 | 9 => 9 | 4 => 4 | 3 => 3 | 0 => 0 | n => n, fun | n => n⟩
theorem Tryd.lays193 : Go.Proofs.Lays.n193 Tryd.prog Tryd.lays193_ren := {
  mixed := by kernel_rfl
  f193 := Tryd.func48.trans (congrArg some (by kernel_rfl))
  t0 := Tryd.underlying0
  a0 := Tryd.isAgg0
  z0 := Tryd.sizeOf0
  v0 := Tryd.zeroValue0
  t3 := Tryd.underlying3
  a3 := Tryd.isAgg3
  z3 := Tryd.sizeOf3
  v3 := Tryd.zeroValue3
  t4 := Tryd.underlying4
  a4 := Tryd.isAgg4
  z4 := Tryd.sizeOf4
  v4 := Tryd.zeroValue4
  t9 := Tryd.underlying9
  a9 := Tryd.isAgg9
  z9 := Tryd.sizeOf9
  v9 := Tryd.zeroValue9
  t31 := Tryd.underlying23
  a31 := Tryd.isAgg23
  z31 := Tryd.sizeOf23
  v31 := Tryd.zeroValue23 }
open Go.RowKit Go.Lib in
/-- slices.Equal at []string: "Equal reports whether two slices are equal: the same length and all elements equal. If the lengths are different, Equal returns false. Otherwise, the elements are compared in increasing index order, and the comparison stops at the first unequal pair. Empty and nil slices are considered equal.": IT RETURNS WHETHER THE TWO LISTS OF ELEMENTS ARE ONE; the world is as it was but for the count of draws (the test 's1[i] != s2[i]' has two reads, whose order the model draws, once a round). 'xs', 'ys': what the cells behind the two addresses hold (the spare capacity too, if you have it); 'xs.take n', 'ys.take m': the elements. THE TWO SLICES MAY OVERLAP. (LAID: no walk: one application.) -/
theorem Tryd.slices_Equal_string (b1 o1 n c b2 o2 m d : Nat) (xs ys : List ByteArray) (w : World) (hx : n ≤ xs.length) (hy : m ≤ ys.length) (hbig : n ≤ 9223372036854775807) (hbig2 : m ≤ 9223372036854775807) (hc1 : ∀ j, j < xs.length → w.cell? ⟨b1, o1 + j, none⟩ = some (.string (xs.getD j ByteArray.empty))) (hc2 : ∀ j, j < ys.length → w.cell? ⟨b2, o2 + j, none⟩ = some (.string (ys.getD j ByteArray.empty))) :
    Calls Tryd.prog 48 #[.slice (some ⟨b1, o1, none⟩) n c, .slice (some ⟨b2, o2, none⟩) m d] w fun e w' => e = .returned (.bool (decide (xs.take n = ys.take m))) ∧ ∃ q, w' = w.drewN q := Any.slices_Equal_string Tryd.lays193 b1 o1 n c b2 o2 m d xs ys w hx hy hbig hbig2 hc1 hc2
open Go.RowKit Go.Lib in
/-- The same where the first is of length 0 (a nil one too): no cell is asked for. (LAID: no walk: one application.) -/
theorem Tryd.slices_Equal_string_empty (a1 a2 : Option Addr) (c m d : Nat) (w : World) (hbig2 : m ≤ 9223372036854775807) :
    Calls Tryd.prog 48 #[.slice a1 0 c, .slice a2 m d] w fun e w' => e = .returned (.bool (decide (m = 0))) ∧ w' = w := Any.slices_Equal_string_empty Tryd.lays193 a1 a2 c m d w hbig2
def Tryd.lays187_ren : Go.Shelf.Ren := ⟨fun | 187 => 172 | 255 => 182 | n => n, fun | 37 => 63 | 5 => 5 | 3 => 3 | n => n, fun | n => n⟩
theorem Tryd.lays187 : Go.Proofs.Lays.n187 Tryd.prog Tryd.lays187_ren := {
  mixed := by kernel_rfl
  f187 := Tryd.func172.trans (congrArg some (by kernel_rfl))
  f255 := Tryd.func182.trans (congrArg some (by kernel_rfl))
  t3 := Tryd.underlying3
  a3 := Tryd.isAgg3
  z3 := Tryd.sizeOf3
  v3 := Tryd.zeroValue3
  t5 := Tryd.underlying5
  a5 := Tryd.isAgg5
  z5 := Tryd.sizeOf5
  v5 := Tryd.zeroValue5
  t37 := Tryd.underlying63
  a37 := Tryd.isAgg63
  z37 := Tryd.sizeOf63
  v37 := Tryd.zeroValue63 }
open Go.RowKit Go.Lib in
/-- bytes.IndexByte, b at whatever address: "IndexByte returns the index of the first instance of c in b, or -1 if c is not present in b." (LAID: no walk: one application.) -/
theorem Tryd.bytes_IndexByte_at (a : Addr) (n c : Nat) (xs : List Int) (cv : Int) (w : World) (hx : xs.length = n) (hc : ∀ i, i < n → w.cell? (a.add i) = some (.int .u8 (xs.getD i 0))) :
    Calls Tryd.prog 172 #[.slice (some a) n c, .int .u8 cv] w fun e w' => e = .returned (.int .i64 (Lib.indexByte (Lib.bytesOf xs) cv.toNat.toUInt8)) ∧ w' = w := Any.bytes_IndexByte_at Tryd.lays187 a n c xs cv w hx hc
open Go.RowKit Go.Lib in
theorem Tryd.slices_Equal_string_lens (a1 a2 : Option Addr) (n c m d : Nat) (w : World) (hnm : n ≠ m) :
    Calls Tryd.prog 48 #[.slice a1 n c, .slice a2 m d] w fun e w' => e = .returned (.bool false) ∧ w' = w := Any.slices_Equal_string_lens Tryd.lays193 a1 a2 n c m d w hnm
def Tryd.laysnb116_ren : Go.Shelf.Ren := ⟨fun | 116 => 174 | 115 => 184 | n => n, fun | 37 => 63 | 4 => 4 | 3 => 3 | 9 => 9 | 5 => 5 | n => n, fun | n => n⟩
theorem Tryd.laysnb116 : Go.Proofs.Lays.nb116 Tryd.prog Tryd.laysnb116_ren := {
  mixed := by kernel_rfl
  f115 := Tryd.func184.trans (congrArg some (by kernel_rfl))
  f116 := Tryd.func174.trans (congrArg some (by kernel_rfl))
  t3 := Tryd.underlying3
  a3 := Tryd.isAgg3
  z3 := Tryd.sizeOf3
  v3 := Tryd.zeroValue3
  t4 := Tryd.underlying4
  a4 := Tryd.isAgg4
  z4 := Tryd.sizeOf4
  v4 := Tryd.zeroValue4
  t9 := Tryd.underlying9
  a9 := Tryd.isAgg9
  z9 := Tryd.sizeOf9
  v9 := Tryd.zeroValue9
  t37 := Tryd.underlying63
  a37 := Tryd.isAgg63
  z37 := Tryd.sizeOf63
  v37 := Tryd.zeroValue63
  t5 := Tryd.underlying5
  a5 := Tryd.isAgg5
  z5 := Tryd.sizeOf5
  v5 := Tryd.zeroValue5 }
/-- bytes.HasPrefix: WHOLE: each argument nil, or of no byte at whatever address, or at an address with its cells. (LAID: no walk: one application.) -/
theorem Tryd.bytes_HasPrefix_all (p1 p2 : Option Addr) (n c m d : Nat) (xs ys : List Int) (w : World) (hx : xs.length = n) (hy : ys.length = m) (hnc : n ≤ c) (h1 : Lib.BytesIn w p1 n xs) (h2 : Lib.BytesIn w p2 m ys) :
    Calls Tryd.prog 174 #[.slice p1 n c, .slice p2 m d] w fun e w' => e = .returned (.bool (Lib.hasPrefix (Lib.bytesOf xs) (Lib.bytesOf ys))) ∧ w' = w := Any.bytes_HasPrefix_all Tryd.laysnb116 p1 p2 n c m d xs ys w hx hy hnc h1 h2
/-- bytes.IndexByte AT nil: -1. (LAID: no walk: one application.) -/
theorem Tryd.bytes_IndexByte_nil (cv : Int) (w : World) :
    Calls Tryd.prog 172 #[.slice none 0 0, .int .u8 cv] w fun e w' => e = .returned (.int .i64 (-1)) ∧ w' = w := Any.bytes_IndexByte_nil Tryd.lays187 cv w
end Go.Proofs
/- Small lemmas on worlds, slices of bytes and strings that this seat's texts use; no condition. -/
namespace Go.Proofs.YtbfdomipkfbaeaaDoor
open Go.ChangeShapes Go.WideShapes Go.ChangeAt Go.RowKit
set_option linter.unusedVariables false
/-- What every file over this seat uses: blocks of cells as wholes, and how they stand behind a store and a new block. -/
theorem cell_of {w : World} {b : Nat} {vs : Array Value} {T : TypeId} {f : Nat × Nat} (i : Nat) (h : w.heap[b]? = some (.cells vs T f)) : w.cell? ⟨b, i, none⟩ = vs[i]? := by simp [World.cell?, h]
theorem free_of {w : World} {b : Nat} {vs : Array Value} {T : TypeId} (i : Nat) (h : w.heap[b]? = some (.cells vs T)) : w.frozen? ⟨b, i, none⟩ = false := by simp [World.frozen?, h]
theorem lt_of {w : World} {b : Nat} {o : Obj} (h : w.heap[b]? = some o) : b < w.heap.size := by
  rcases Nat.lt_or_ge b w.heap.size with h' | h'
  · exact h'
  · simp [Array.getElem?_eq_none h'] at h
theorem hp_new (w : World) (o : Obj) : (w.alloc o).heap[w.heap.size]? = some o := by
  show (w.heap.push o)[w.heap.size]? = _
  simp
theorem hp_old {w : World} {o o' : Obj} {k : Nat} (h : w.heap[k]? = some o') : (w.alloc o).heap[k]? = some o' := by
  rw [← h]; exact Below.heap_alloc _ _ _ (lt_of h)
theorem hp_other {w : World} {b i k : Nat} {v : Value} (h : k ≠ b) : (w.setCell ⟨b, i, none⟩ v).heap[k]? = w.heap[k]? := Below.heap_setCell _ _ _ _ h
theorem hp_set {w : World} {b i : Nat} {v : Value} {vs : Array Value} {T : TypeId} {f : Nat × Nat} (h : w.heap[b]? = some (.cells vs T f)) :
    (w.setCell ⟨b, i, none⟩ v).heap[b]? = some (.cells (vs.setIfInBounds i v) T f) := by
  simp [World.setCell, Array.getElem?_modify, h]
theorem below_drewN' {B : Nat} {a w : World} {n : Nat} (h : Below B a w) : Below B a (w.drewN n) := below_drewN h n
theorem _root_.Go.World.grownBy.drewN {a w : World} {row : Option Nat} {n : Nat} (h : a.grownBy w row) : a.grownBy (w.drewN n) row := ⟨h.os, h.tape, h.output, h.size, h.block⟩
theorem _root_.Go.World.grownBy.setCell {a w : World} {b : Nat} (h : a.grownBy w (some b)) (i : Nat) (v : Value) : a.grownBy (w.setCell ⟨b, i, none⟩ v) (some b) :=
  ⟨h.os, h.tape, h.output, by simpa using h.size, fun k hk hr => by rw [hp_other (by intro e; exact hr (by rw [e]))]; exact h.block k hk hr⟩
theorem _root_.Go.World.grownBy.alloc {a w : World} {row : Option Nat} (h : a.grownBy w row) (o : Obj) : a.grownBy (w.alloc o) row :=
  ⟨h.os, h.tape, h.output, by have := h.size; simp; omega, fun k hk hr => by rw [Below.heap_alloc _ _ _ (by have := h.size; omega)]; exact h.block k hk hr⟩
theorem _root_.Go.RowKit.Below.gr {w w' : World} (h : Below w.heap.size w w') (row : Option Nat) : w.grownBy w' row := ⟨h.os, h.tape, h.output, h.size, fun k hk _ => h.block k hk⟩
theorem _root_.Go.World.grownBy.below {w w' : World} {b B : Nat} (h : w.grownBy w' (some b)) (hB : B ≤ w.heap.size) (hb : B ≤ b) : Below B w w' := (Below.refl B w).grown h hB fun k e => by cases e; exact hb
/-- WHAT THE WALK IS TOLD OF A SLICE OF INTEGERS THAT CAME IN. -/
def IsRow (k : IntKind) (w : World) (a : Option Addr) (len cap : Nat) (zs : List Int) : Prop :=
  (a = none ∧ len = 0 ∧ cap = 0 ∧ zs = []) ∨
  ∃ x, a = some x ∧ len ≤ cap ∧ cap ≤ maxLen ∧ zs.length = cap ∧ (∀ i, i < zs.length → w.cell? (x.add i) = some (.int k (zs.getD i 0))) ∧ ∀ n ∈ zs, (Lit.int k n).wf = true
theorem IsRow.at {k : IntKind} {w : World} {a : Option Addr} {len cap : Nat} {zs : List Int} (h : IsRow k w a len cap zs) : len ≤ cap ∧ zs.length = cap ∧ len ≤ maxLen ∧
    (0 < len → ∃ b o, a = some ⟨b, o, none⟩ ∧ b < w.heap.size ∧ ∀ i, i < len → w.cell? ⟨b, o + i, none⟩ = some (.int k (zs.getD i 0))) := by
  rcases h with ⟨rfl, rfl, rfl, rfl⟩ | ⟨⟨b, o, s⟩, rfl, hl, hm, hz, hc, _⟩
  · exact ⟨by omega, rfl, Nat.zero_le _, fun h => absurd h (by omega)⟩
  · refine ⟨hl, hz, by omega, fun h0 => ?_⟩
    have h := hc 0 (by omega)
    have hs : s = none := by simpa [Addr.add] using World.cell?_spot h
    subst hs
    exact ⟨b, o, rfl, World.block_lt_of_cell? w _ h, fun i hi => by
    have := hc i (by omega)
    unfold Addr.add at this
    split at this
    · rename_i hi; subst hi; exact this
    · exact this⟩

/-- One byte as the model holds it. -/
def bv (b : UInt8) : Value := .int .u8 b.toNat
/-- A slice of one-cell elements that can be read: n elements, room for cap, its cells below block B. -/
structure Rd (w : World) (B : Nat) (A : Option Addr) (n cap : Nat) (us : List Value) : Prop where
  len : us.length = n
  le : n ≤ cap
  fit : cap ≤ maxLen
  nil : A = none → cap = 0
  at_ : 0 < cap → ∃ b o, A = some ⟨b, o, none⟩ ∧ b < B ∧ ∀ i u, us[i]? = some u → w.cell? ⟨b, o + i, none⟩ = some u
/-- A slice of bytes that can be read. -/
def Byt (w : World) (B : Nat) (A : Option Addr) (n cap : Nat) (l : List UInt8) : Prop := Rd w B A n cap (l.map bv)
section
variable {w w' : World} {B B' n cap : Nat} {A : Option Addr} {us : List Value} {l : List UInt8}
theorem Rd.keep (h : Rd w B A n cap us) (hk : ∀ p : Addr, p.block < B → w'.cell? p = w.cell? p) : Rd w' B A n cap us :=
  ⟨h.len, h.le, h.fit, h.nil, fun h0 => by
    obtain ⟨b, o, e, hb, hc⟩ := h.at_ h0
    exact ⟨b, o, e, hb, fun i u hu => (hk ⟨b, o + i, none⟩ hb).trans (hc i u hu)⟩⟩
theorem Rd.more (h : Rd w B A n cap us) (hB : B ≤ B') : Rd w B' A n cap us :=
  ⟨h.len, h.le, h.fit, h.nil, fun h0 => by
    obtain ⟨b, o, e, hb, hc⟩ := h.at_ h0
    exact ⟨b, o, e, by omega, hc⟩⟩
theorem Rd.below (h : Rd w B A n cap us) (hb : Below B w w') : Rd w' B A n cap us := h.keep fun p hp => hb.cell hp
theorem Rd.drewN {k : Nat} (h : Rd w B A n cap us) : Rd (w.drewN k) B A n cap us := h.keep (w' := w.drewN k) fun _ _ => rfl
theorem Rd.nilR (w : World) (B : Nat) : Rd w B none 0 0 [] := ⟨rfl, Nat.le_refl _, Nat.zero_le _, fun _ => rfl, fun h => absurd h (by omega)⟩
theorem Rd.ofOwn {base : Nat} {e : TypeId} {c : Nat} (h : w.ownsRow base e 1 (.slice A n c) n us) : Rd w w.heap.size A n c us := by
  obtain ⟨hl, h2 | ⟨g, cap, cur, hv, hg, hh, hn, hc, hs, ht⟩⟩ := h
  · obtain ⟨hv, hn⟩ := h2
    cases hv
    have : us = [] := by simpa using hl
    subst this
    exact Rd.nilR w _
  · cases hv
    refine ⟨by simpa using hl, hn, hc, (fun e => by cases e), fun _ => ⟨g, 0, rfl, lt_of hh, fun i u hu => ?_⟩⟩
    rw [cell_of _ hh, ← hu, ← ht, Nat.zero_add]
    have hi : i < us.length := by
      rcases Nat.lt_or_ge i us.length with h' | h'
      · exact h'
      · simp [List.getElem?_eq_none h'] at hu
    rw [List.getElem?_take_of_lt (by rw [← hl]; exact hi), Array.getElem?_toList]
theorem Rd.take {k : Nat} (h : Rd w B A n cap us) (hk : k ≤ n) : Rd w B A k cap (us.take k) :=
  ⟨by rw [List.length_take, h.len]; omega, by have := h.le; omega, h.fit, h.nil, fun h0 => by
    obtain ⟨b, o, e, hb, hc⟩ := h.at_ h0
    exact ⟨b, o, e, hb, fun i u hu => hc i u (by rw [List.getElem?_take] at hu; split at hu
                                                 · exact hu
                                                 · cases hu)⟩⟩
theorem Byt.length (h : Byt w B A n cap l) : l.length = n := by simpa using h.len
theorem Byt.below (h : Byt w B A n cap l) (hb : Below B w w') : Byt w' B A n cap l := Rd.below h hb
theorem Byt.more (h : Byt w B A n cap l) (hB : B ≤ B') : Byt w B' A n cap l := Rd.more h hB
theorem Byt.drewN {k : Nat} (h : Byt w B A n cap l) : Byt (w.drewN k) B A n cap l := Rd.drewN h
theorem Byt.take {k : Nat} (h : Byt w B A n cap l) (hk : k ≤ n) : Byt w B A k cap (l.take k) := by
  have := Rd.take h hk
  rwa [← List.map_take] at this
theorem Byt.cell {i : Nat} (h : Byt w B A n cap l) (hi : i < n) : ∃ b o c, A = some ⟨b, o, none⟩ ∧ b < B ∧ l[i]? = some c ∧ w.cell? ⟨b, o + i, none⟩ = some (.int .u8 (UInt8.toNat c : Int)) := by
  obtain ⟨b, o, e, hb, hc⟩ := h.at_ (by have := h.le; omega)
  have hl : i < l.length := by rw [h.length]; exact hi
  exact ⟨b, o, l[i], e, hb, List.getElem?_eq_getElem hl, hc i _ (by simp [hl, bv])⟩
/-- The same bytes as a shelf's contract reads them: numbers. -/
def nums (l : List UInt8) : List Int := l.map fun b => (b.toNat : Int)
theorem nums_length (l : List UInt8) : (nums l).length = l.length := by simp [nums]
theorem bytesOf_nums (l : List UInt8) : Lib.bytesOf (nums l) = l := by
  simp only [Lib.bytesOf, nums, List.map_map]
  conv => rhs; rw [← List.map_id l]
  refine List.map_congr_left fun b _ => ?_
  simp
theorem Byt.cells (h : Byt w B A n cap l) (h0 : 0 < cap) : ∃ b o, A = some ⟨b, o, none⟩ ∧ ∀ i, i < n → w.cell? ⟨b, o + i, none⟩ = some (.int .u8 ((nums l).getD i 0)) := by
  obtain ⟨b, o, e, hb, hc⟩ := h.at_ h0
  refine ⟨b, o, e, fun i hi => ?_⟩
  have hl : i < l.length := by rw [h.length]; exact hi
  rw [hc i _ (by simp [hl, bv]; rfl)]
  simp [nums, hl]
end
/-- string(b), of bytes that can be read. -/
theorem Byt.str {w : World} {B n cap : Nat} {A : Option Addr} {l : List UInt8} (h : Byt w B A n cap l) : (convert 63 9 (.slice A n cap)).run Tryd.prog w = .ok (.string ⟨l.toArray⟩) w := by
  have hs : strOfNums (nums l) = ⟨l.toArray⟩ := by
    have : (strOfNums (nums l)).data.toList = l := by rw [strOfNums_data]; exact bytesOf_nums l
    refine ByteArray.ext ?_
    show (strOfNums (nums l)).data = l.toArray
    conv => rhs; rw [← this]
  rcases Nat.eq_zero_or_pos cap with h0 | h0
  · have hn := h.le
    obtain rfl : n = 0 := by omega
    obtain rfl : l = [] := List.length_eq_zero_iff.1 h.length
    cases A with
    | none => exact run_convert_bytes_nil w 63 5 Tryd.underlying63 Tryd.underlying5 0 cap 9 Tryd.underlying9
    | some a =>
      rw [run_convert_bytes_string w 63 9 5 _ 0 cap Tryd.underlying63 Tryd.underlying5 Tryd.underlying9]
      have := run_bytesToString (P := Tryd.prog) w a 0 cap [] (by simp [loadCells, loadCellsFrom])
      rw [this]; rfl
  · obtain ⟨b, o, rfl, hc⟩ := h.cells h0
    rw [← hs]
    exact run_convert_bytes_arg w 63 5 Tryd.underlying63 Tryd.underlying5 b o n cap (nums l) (by rw [nums_length, h.length]) hc 9 Tryd.underlying9
/-- A constant's bytes in a block of their own. -/
theorem Byt.const (w : World) (l : List UInt8) (f : Nat × Nat) (hl : l.length ≤ 1000000) : Byt (w.alloc (.cells (l.map bv).toArray 5 f)) (w.heap.size + 1) (some ⟨w.heap.size, 0, none⟩) l.length l.length l :=
  ⟨by simp, Nat.le_refl _, by unfold maxLen; omega, (fun e => by cases e), fun _ => ⟨w.heap.size, 0, rfl, by omega, fun i u hu => by rw [cell_of _ (hp_new _ _), Nat.zero_add, List.getElem?_toArray]; exact hu⟩⟩
theorem Byt.drew {w : World} {B n cap : Nat} {A : Option Addr} {l : List UInt8} (h : Byt w B A n cap l) : Byt w.drew B A n cap l := Rd.keep (w' := w.drew) h fun _ _ => rfl
/-- The address of a slice that begins later. -/
def cutA (A : Option Addr) (cap s : Nat) : Option Addr := if cap = s then A else A.map (·.add s)
theorem addr_add (b o s : Nat) : (⟨b, o, none⟩ : Addr).add s = ⟨b, o + s, none⟩ := by
  unfold Addr.add
  split
  · rename_i h; subst h; rfl
  · rfl
theorem Rd.drop {w : World} {B n cap : Nat} {A : Option Addr} {us : List Value} {k : Nat} (h : Rd w B A n cap us) (hk : k ≤ n) : Rd w B (cutA A cap k) (n - k) (cap - k) (us.drop k) := by
  refine ⟨by rw [List.length_drop, h.len], by have := h.le; omega, by have := h.fit; omega, fun e => ?_, fun h0 => ?_⟩
  · unfold cutA at e
    split at e
    · omega
    · have : A = none := by cases A with
        | none => rfl
        | some a => simp at e
      have := h.nil this
      omega
  · obtain ⟨b, o, rfl, hb, hc⟩ := h.at_ (by omega)
    unfold cutA
    rw [if_neg (by omega), Option.map_some, addr_add]
    exact ⟨b, o + k, rfl, hb, fun i u hu => by rw [Nat.add_assoc]; exact hc (k + i) u (by rw [← hu, List.getElem?_drop])⟩
theorem Byt.drop {w : World} {B n cap : Nat} {A : Option Addr} {l : List UInt8} {k : Nat} (h : Byt w B A n cap l) (hk : k ≤ n) : Byt w B (cutA A cap k) (n - k) (cap - k) (l.drop k) := by
  have := Rd.drop h hk
  rwa [← List.map_drop] at this
theorem size_u8 (w : World) : (sizeOf (Tryd.prog.elem 63)).run Tryd.prog w = .ok 1 w := by kernel_rfl
/-- 'b[s:]' of bytes, the address under one name. -/
theorem run_from {w : World} (A : Option Addr) (n cap s : Nat) (h : s ≤ n) : (Instr.slice 63 (.slice A n cap) (some (.int .i64 (s : Int))) none none).run Tryd.prog w = .ok (.slice (cutA A cap s) (n - s) (cap - s)) w := by
  rw [run_slice_l (P := Tryd.prog) (w := w) 63 A n cap (by kernel_rfl) .i64 s (by omega) (by omega), size_u8]
  simp [sliced, cutA]
/-- 'b[s:t]' of bytes. -/
theorem run_fromTo {w : World} (A : Option Addr) (n cap s t : Nat) (h : s ≤ t) (ht : t ≤ cap) : (Instr.slice 63 (.slice A n cap) (some (.int .i64 (s : Int))) (some (.int .i64 (t : Int))) none).run Tryd.prog w = .ok (.slice (cutA A cap s) (t - s) (cap - s)) w := by
  rw [run_slice_lh (P := Tryd.prog) (w := w) 63 A n cap (by kernel_rfl) .i64 .i64 s t (by omega) (by omega) (by omega), size_u8]
  simp [sliced, cutA]
end Go.Proofs.YtbfdomipkfbaeaaDoor
/- Plain facts on characters as bytes. -/
namespace Go.Proofs.YtbfdomipkfbaeaaDoor
open Go.ChangeShapes Go.WideShapes Go.ChangeAt Go.RowKit
set_option linter.unusedVariables false
theorem snoc_induction {P : List UInt8 → Prop} (h0 : P []) (h1 : ∀ l x, P l → P (l ++ [x])) : ∀ l, P l := by
  intro l
  have : ∀ r : List UInt8, P r.reverse := by
    intro r
    induction r with
    | nil => exact h0
    | cons x r ih => rw [List.reverse_cons]; exact h1 _ _ ih
  simpa using this l.reverse
theorem take_snoc (l : List UInt8) (k : Nat) (c : UInt8) (h : l[k]? = some c) : l.take (k + 1) = l.take k ++ [c] := by
  rw [List.take_add_one, h]; rfl
theorem toNat_eq (c d : UInt8) : ((c.toNat : Int) == (d.toNat : Int)) = decide (c = d) := by
  by_cases h : c = d
  · simp [h]
  · have : ¬ c.toNat = d.toNat := fun e => h (UInt8.toNat_inj.1 e)
    simp [h]; omega
/-- A character's number. -/
def isR (r : Int) : Bool := decide (0 ≤ r) && decide (r ≤ 1114111) && (decide (r < 55296) || decide (57343 < r))
/-- How many bytes a character has, by the first one; 0: it is none. -/
def lenB (c : Nat) : Nat := if c < 128 then 1 else if c < 192 then 0 else if c < 224 then 2 else if c < 240 then 3 else if c < 248 then 4 else 0
def msk (n c : Nat) : Nat := if n = 1 then c % 128 else if n = 2 then c % 32 else if n = 3 then c % 16 else c % 8
def least (n : Nat) : Nat := if n = 1 then 0 else if n = 2 then 128 else if n = 3 then 2048 else 65536
/-- What follows on a first byte. -/
def cont (r : Nat) : List UInt8 → Option Nat
  | [] => some r
  | c :: t => if 128 ≤ c.toNat ∧ c.toNat < 192 then cont (r * 64 + (c.toNat - 128)) t else none
/-- The character that bytes begin with, and how many of them it has. -/
def dec : List UInt8 → Option (Nat × Nat)
  | [] => none
  | c :: t => if lenB c.toNat = 0 ∨ t.length + 1 < lenB c.toNat then none else
    match cont (msk (lenB c.toNat) c.toNat) (t.take (lenB c.toNat - 1)) with
    | some r => if least (lenB c.toNat) ≤ r ∧ isR r = true then some (r, lenB c.toNat) else none
    | none => none
theorem lenB_le (c : Nat) : lenB c ≤ 4 := by unfold lenB; repeat' split <;> try omega
theorem dec_le (l : List UInt8) (r n : Nat) (h : dec l = some (r, n)) : 1 ≤ n ∧ n ≤ 4 ∧ n ≤ l.length ∧ r ≤ 1114111 := by
  cases l with
  | nil => simp [dec] at h
  | cons c t =>
    have h4 := lenB_le c.toNat
    simp only [dec] at h
    split at h
    · cases h
    · rename_i hn
      split at h
      · rename_i q hq
        split at h
        · rename_i hr
          simp only [Option.some.injEq, Prod.mk.injEq] at h
          obtain ⟨rfl, rfl⟩ := h
          simp only [not_or] at hn
          refine ⟨by omega, h4, by simp; omega, ?_⟩
          have := hr.2
          simp [isR] at this
          omega
        · cases h
      · cases h
end Go.Proofs.YtbfdomipkfbaeaaDoor
/- Strings: pieces; narthexref06.Digits. -/
namespace Go.Proofs.YtbfdomipkfbaeaaDoor
open Go.ChangeShapes Go.WideShapes Go.ChangeAt Go.RowKit
set_option linter.unusedVariables false
/-- 's[i:j]' of a string. -/
theorem run_strSlice (l : List UInt8) (i j : Nat) (h : i ≤ j) (hj : j ≤ l.length) (w : World) :
    (Instr.slice 9 (.string ⟨l.toArray⟩) (some (.int .i64 (i : Int))) (some (.int .i64 (j : Int))) none).run Tryd.prog w = .ok (.string ⟨((l.drop i).take (j - i)).toArray⟩) w := by
  have hsz : (⟨l.toArray⟩ : ByteArray).size = l.length := by simp [ByteArray.size]
  rw [run_slice_string w 9 ⟨l.toArray⟩ .i64 .i64 i j Tryd.underlying9 (by omega) (by omega) (by rw [hsz]; omega)]
  congr 2
  refine ByteArray.ext (Array.toList_inj.1 ?_)
  rw [Lib.extract_data]
  simp
/-- 's[k]' of a string. -/
theorem run_strIndex (l : List UInt8) (k : Nat) (hk : k < l.length) (w : World) :
    (Instr.index 9 (.string ⟨l.toArray⟩) (.int .i64 (k : Int))).run Tryd.prog w = .ok (.int .u8 (UInt8.toNat (l.getD k 0) : Int)) w := by
  have hsz : (⟨l.toArray⟩ : ByteArray).size = l.length := by simp [ByteArray.size]
  have hb : ((⟨l.toArray⟩ : ByteArray)[k]'(by rw [hsz]; exact hk)) = l.getD k 0 := by
    simp [ByteArray.getElem_eq_getElem_data, hk]
  rw [run_index_string (P := Tryd.prog) w 9 ⟨l.toArray⟩ .i64 (k : Int) Tryd.underlying9, dif_pos ⟨by omega, by rw [hsz]; omega⟩]
  simp only [Int.toNat_natCast, hb]
theorem run_sop {w : World} (a b : List UInt8) (h : a.length + b.length ≤ 9223372036854775807) : (Op.stringOp .add ⟨a.toArray⟩ ⟨b.toArray⟩).run Tryd.prog w = .ok (.string ⟨(a ++ b).toArray⟩) w := by
  rw [run_string_add_sum w _ _ (by simp [ByteArray.size]; omega), ByteArray.mk_append_mk]
end Go.Proofs.YtbfdomipkfbaeaaDoor
/- strings.Builder: what its methods do to a builder that the call has made. -/
namespace Go.Proofs.YtbfdomipkfbaeaaDoor
open Go.ChangeShapes Go.WideShapes Go.ChangeAt Go.RowKit
set_option linter.unusedVariables false
/-- A strings.Builder that the call has made, in block b, that holds the bytes l; its row of bytes lies at R or behind; p: what 'addr' holds. -/
def BldP (p : Value) (R b : Nat) (l : List UInt8) (w : World) : Prop :=
  b < R ∧ ∃ v, w.heap[b]? = some (.cells #[p, v] 65 (0, 0)) ∧ w.ownsRow R 5 1 v l.length (Lib.byteCells l)
/-- .. fresh or used. -/
def Bld (R b : Nat) (l : List UInt8) (w : World) : Prop := BldP (.pointer none) R b l w ∨ BldP (.pointer (some ⟨b, 0, none⟩)) R b l w
/-- Below R every block but b stands. -/
structure Fr (R b : Nat) (w w' : World) : Prop where
  os : w'.os = w.os
  tape : w'.tape = w.tape
  output : w'.output = w.output
  size : w.heap.size ≤ w'.heap.size
  block : ∀ k, k < R → k ≠ b → w'.heap[k]? = w.heap[k]?
theorem Fr.refl (R b : Nat) (w : World) : Fr R b w w := ⟨rfl, rfl, rfl, Nat.le_refl _, fun _ _ _ => rfl⟩
theorem Fr.trans {R b : Nat} {x y z : World} (h : Fr R b x y) (k : Fr R b y z) : Fr R b x z :=
  ⟨k.os.trans h.os, k.tape.trans h.tape, k.output.trans h.output, Nat.le_trans h.size k.size, fun i hi hb => (k.block i hi hb).trans (h.block i hi hb)⟩
theorem Fr.below {R b B : Nat} {w w' : World} (h : Fr R b w w') (hR : B ≤ R) (hb : B ≤ b) : Below B w w' := ⟨h.os, h.tape, h.output, h.size, fun k hk => h.block k (by omega) (by omega)⟩
theorem Fr.mono {R R' b : Nat} {w w' : World} (h : Fr R b w w') (hR : R' ≤ R) : Fr R' b w w' := ⟨h.os, h.tape, h.output, h.size, fun k hk hb => h.block k (by omega) hb⟩
theorem Fr.set {R b : Nat} {w w' : World} (h : Fr R b w w') (i : Nat) (v : Value) : Fr R b w (w'.setCell ⟨b, i, none⟩ v) :=
  ⟨h.os, h.tape, h.output, by have := h.size; simpa [World.setCell] using this, fun k hk hb => by rw [hp_other hb]; exact h.block k hk hb⟩
theorem ownsRow_base {w : World} {B B' : Nat} {e : TypeId} {c : Nat} {v : Value} {n : Nat} {xs : List Value} (h : w.ownsRow B e c v n xs) (hB : B' ≤ B) : w.ownsRow B' e c v n xs := by
  obtain ⟨hl, h2 | ⟨g, cap, cur, hv, hg, r⟩⟩ := h
  · exact ⟨hl, Or.inl h2⟩
  · exact ⟨hl, Or.inr ⟨g, cap, cur, hv, by omega, r⟩⟩
theorem Bld.p {R b : Nat} {l : List UInt8} {w : World} (h : Bld R b l w) : ∃ p, BldP p R b l w := by
  rcases h with h | h
  · exact ⟨_, h⟩
  · exact ⟨_, h⟩
theorem Bld.lt {R b : Nat} {l : List UInt8} {w : World} (h : Bld R b l w) : b < w.heap.size := by
  obtain ⟨p, hb, v, hh, ho⟩ := h.p
  exact lt_of hh
theorem BldP.alloc {p : Value} {R b : Nat} {l : List UInt8} {w : World} (h : BldP p R b l w) (o : Obj) : BldP p R b l (w.alloc o) := by
  obtain ⟨hb, v, hh, ho⟩ := h
  exact ⟨hb, v, hp_old hh, ho.alloc _⟩
theorem Bld.alloc {R b : Nat} {l : List UInt8} {w : World} (h : Bld R b l w) (o : Obj) : Bld R b l (w.alloc o) := by
  rcases h with h | h
  · exact Or.inl (h.alloc o)
  · exact Or.inr (h.alloc o)
theorem Bld.drewN {R b : Nat} {l : List UInt8} {w : World} (h : Bld R b l w) (n : Nat) : Bld R b l (w.drewN n) := h
/-- Below the heap's size every block stands: so does the builder. -/
theorem BldP.kept {p : Value} {R b : Nat} {l : List UInt8} {w w' : World} (h : BldP p R b l w) (hb : Below w.heap.size w w') : BldP p R b l w' := by
  obtain ⟨hb', v, hh, ho⟩ := h
  refine ⟨hb', v, (hb.block b (lt_of hh)).trans hh, ho.kept (row := none) (hb.gr none) ?_⟩
  cases hv : v.ownBlock with
  | none => exact Or.inl rfl
  | some k => exact Or.inr (by simp)
theorem Bld.kept {R b : Nat} {l : List UInt8} {w w' : World} (h : Bld R b l w) (hb : Below w.heap.size w w') : Bld R b l w' := by
  rcases h with h | h
  · exact Or.inl (h.kept hb)
  · exact Or.inr (h.kept hb)
theorem Bld.fresh (R : Nat) (w : World) (hR : w.heap.size < R) : Bld R w.heap.size [] (w.alloc (.cells #[.pointer none, .slice none 0 0] 65)) :=
  Or.inl ⟨hR, .slice none 0 0, hp_new w _, World.ownsRow_nil _ _ _ _⟩
theorem Bld.is {R b : Nat} {l : List UInt8} {w : World} (h : Bld R b l w) : Lib.IsBuilder 65 5 b b (Lib.byteCells l) w := by
  have aux : ∀ p, BldP p R b l w → Lib.BuilderAt 65 5 b b p (Lib.byteCells l) w := by
    rintro p ⟨hb, v, hh, ho⟩
    refine ⟨Nat.le_refl _, v, hh, ?_, ?_⟩
    · rw [Lib.byteCells_length]; exact ownsRow_base ho (by omega)
    · intro e
      have := (ho.lt b e).1
      omega
  rcases h with h | h
  · exact Or.inl (aux _ h)
  · exact Or.inr (aux _ h)
end Go.Proofs.YtbfdomipkfbaeaaDoor
/- cref.Escape. -/
namespace Go.Proofs.YtbfdomipkfbaeaaDoor
open Go.ChangeShapes Go.WideShapes Go.ChangeAt Go.RowKit
set_option linter.unusedVariables false
/-- '[]byte(s)'. -/
theorem toBytes (w : World) (l : List UInt8) (hl : l.length ≤ 1000000) : ∃ c w', (convert 9 63 (.string ⟨l.toArray⟩)).run Tryd.prog w = .ok (.slice (some ⟨w.heap.size, 0, none⟩) l.length c) w' ∧ Below w.heap.size w w' ∧ w'.heap.size = w.heap.size + 1 ∧ Byt w' (w.heap.size + 1) (some ⟨w.heap.size, 0, none⟩) l.length c l := by
  have hsz : (⟨l.toArray⟩ : ByteArray).size = l.length := by simp [ByteArray.size]
  refine ⟨_, _, (by have := Lib.run_convert_string_bytes (P := Tryd.prog) w 9 63 5 ⟨l.toArray⟩ Tryd.underlying9 Tryd.underlying63 Tryd.underlying5; rw [hsz] at this; exact this), Lib.bytesWorld_below _ _ _, Lib.bytesWorld_size _ _ _, ⟨by simp, grownCap_ge _ _ _ _, grownCap_le_maxLen _ _ _ _ (by unfold maxLen; omega), (fun e => by cases e), fun _ => ⟨_, _, rfl, by omega, fun i u hu => ?_⟩⟩⟩
  have hi : i < l.length := by
    rcases Nat.lt_or_ge i l.length with h' | h'
    · exact h'
    · rw [List.getElem?_eq_none (by simpa using h')] at hu; cases hu
  rw [Nat.zero_add, Lib.bytesWorld_cell _ _ _ _ (by rw [hsz]; exact hi)]
  rw [List.getElem?_map, List.getElem?_eq_getElem hi] at hu
  simp only [Option.map_some, Option.some.injEq] at hu
  rw [← hu]
  simp [bv, hi]
theorem ne_byte (c n : UInt8) (z : Int) (hz : z = (n.toNat : Int)) (h : ¬ c = n) : ((c.toNat : Int) == z) = false := by rw [hz, toNat_eq]; simp [h]
end Go.Proofs.YtbfdomipkfbaeaaDoor
/- Bytes of a string, of a constant. -/
namespace Go.Proofs.YtbfdomipkfbaeaaDoor
open Go.ChangeShapes Go.WideShapes Go.ChangeAt Go.RowKit
set_option linter.unusedVariables false
theorem byt_new (w : World) (l : List UInt8) (hl : l.length ≤ 1000000) : Byt (Lib.bytesWorld w 5 ⟨l.toArray⟩) (w.heap.size + 1) (some ⟨w.heap.size, 0, none⟩) l.length (grownCap w l.length 0 5) l := by
  have hsz : (⟨l.toArray⟩ : ByteArray).size = l.length := by simp [ByteArray.size]
  refine ⟨by simp, grownCap_ge _ _ _ _, grownCap_le_maxLen _ _ _ _ (by unfold maxLen; omega), (fun e => by cases e), fun _ => ⟨_, _, rfl, by omega, fun i u hu => ?_⟩⟩
  have hi : i < l.length := by
    rcases Nat.lt_or_ge i l.length with h' | h'
    · exact h'
    · rw [List.getElem?_eq_none (by simpa using h')] at hu; cases hu
  rw [Nat.zero_add, Lib.bytesWorld_cell _ _ _ _ (by rw [hsz]; exact hi)]
  rw [List.getElem?_map, List.getElem?_eq_getElem hi] at hu
  simp only [Option.map_some, Option.some.injEq] at hu
  rw [← hu]
  simp [bv, hi]
theorem run_toBytes (w : World) (l : List UInt8) : (convert 9 63 (.string ⟨l.toArray⟩)).run Tryd.prog w = .ok (.slice (some ⟨w.heap.size, 0, none⟩) l.length (grownCap w l.length 0 5)) (Lib.bytesWorld w 5 ⟨l.toArray⟩) := by
  have hsz : (⟨l.toArray⟩ : ByteArray).size = l.length := by simp [ByteArray.size]
  have := Lib.run_convert_string_bytes (P := Tryd.prog) w 9 63 5 ⟨l.toArray⟩ Tryd.underlying9 Tryd.underlying63 Tryd.underlying5
  rwa [hsz] at this
theorem run_upTo {w : World} (A : Option Addr) (n cap t : Nat) (ht : t ≤ cap) : (Instr.slice 63 (.slice A n cap) none (some (.int .i64 (t : Int))) none).run Tryd.prog w = .ok (.slice A t cap) w := by
  rw [run_slice_h (P := Tryd.prog) (w := w) 63 A n cap (by kernel_rfl) .i64 (t : Int) (by omega) (by omega), size_u8]
  simp [sliced]
  intro _
  cases A with
  | none => rfl
  | some a => simp [Addr.add]
theorem alloc_const (w : World) (l : List UInt8) (f : Nat × Nat) (hl : l.length ≤ 1000000) : Below w.heap.size w (w.alloc (.cells (l.map bv).toArray 5 f)) ∧ Byt (w.alloc (.cells (l.map bv).toArray 5 f)) (w.heap.size + 1) (some ⟨w.heap.size, 0, none⟩) l.length l.length l :=
  ⟨(Below.refl _ _).alloc (Nat.le_refl _) _, Byt.const w l f hl⟩
end Go.Proofs.YtbfdomipkfbaeaaDoor
/- The first byte of a character, and whether a number is one: the walks. -/
namespace Go.Proofs.YtbfdomipkfbaeaaDoor
open Go.ChangeShapes Go.WideShapes Go.ChangeAt Go.RowKit
set_option linter.unusedVariables false
theorem length_c (c : UInt8) (w : World) : Calls Tryd.prog 154 #[.int .u8 c.toNat] w fun e w' => e = .returned (.int .i64 (lenB c.toNat)) ∧ w = w' := by
  have hc := c.toNat_lt
  generalize c.toNat = x at *
  unfold lenB
  by_cases h1 : x < 128
  · have h1' : (x : Int) < 128 := by omega
    rw [if_pos h1]
    go_enter Tryd.func154, Tryd.ntmps154
    go_wp2
    go_ret
    exact ⟨rfl, rfl⟩
  · have h1' : ¬ (x : Int) < 128 := by omega
    rw [if_neg h1]
    by_cases h2 : x < 192
    · have h2' : (x : Int) < 192 := by omega
      rw [if_pos h2]
      go_enter Tryd.func154, Tryd.ntmps154
      go_wp2
      go_ret
      exact ⟨rfl, rfl⟩
    · have h2' : ¬ (x : Int) < 192 := by omega
      rw [if_neg h2]
      by_cases h3 : x < 224
      · have h3' : (x : Int) < 224 := by omega
        rw [if_pos h3]
        go_enter Tryd.func154, Tryd.ntmps154
        go_wp2
        go_ret
        exact ⟨rfl, rfl⟩
      · have h3' : ¬ (x : Int) < 224 := by omega
        rw [if_neg h3]
        by_cases h4 : x < 240
        · have h4' : (x : Int) < 240 := by omega
          rw [if_pos h4]
          go_enter Tryd.func154, Tryd.ntmps154
          go_wp2
          go_ret
          exact ⟨rfl, rfl⟩
        · have h4' : ¬ (x : Int) < 240 := by omega
          rw [if_neg h4]
          by_cases h5 : x < 248
          · have h5' : (x : Int) < 248 := by omega
            rw [if_pos h5]
            go_enter Tryd.func154, Tryd.ntmps154
            go_wp2
            go_ret
            exact ⟨rfl, rfl⟩
          · have h5' : ¬ (x : Int) < 248 := by omega
            rw [if_neg h5]
            go_enter Tryd.func154, Tryd.ntmps154
            go_wp2
            go_ret
            exact ⟨rfl, rfl⟩

theorem utfIs_c (r : Int) (w : World) : Calls Tryd.prog 155 #[.int .i64 r] w fun e w' => e = .returned (.bool (isR r)) ∧ w = w' := by
  have hf : isR r = true ∨ isR r = false := by cases isR r <;> simp
  by_cases h0 : 0 ≤ r
  · by_cases h1 : r ≤ 1114111
    · by_cases h2 : r < 55296
      · have e : isR r = true := by simp [isR, h0, h1, h2]
        rw [e]
        clear hf e
        go_enter Tryd.func155, Tryd.ntmps155
        go_wp2
        go_ret
        exact ⟨rfl, rfl⟩
      · by_cases h3 : 57343 < r
        · have e : isR r = true := by simp [isR, h0, h1, h3]
          rw [e]
          clear hf e
          go_enter Tryd.func155, Tryd.ntmps155
          go_wp2
          go_ret
          exact ⟨rfl, rfl⟩
        · have e : isR r = false := by simp [isR, h2, h3]
          rw [e]
          clear hf e
          have h3' : r ≤ 57343 := by omega
          have h2' : 55296 ≤ r := by omega
          go_enter Tryd.func155, Tryd.ntmps155
          go_wp2
          go_ret
          exact ⟨rfl, rfl⟩
    · have e : isR r = false := by simp [isR, h1]
      rw [e]
      clear hf e
      have h1' : 1114111 < r := by omega
      have hd1 : decide (r ≤ 1114111) = false := by simp; omega
      have hd0 : decide (0 ≤ r) = true := by simpa using h0
      go_enter Tryd.func155, Tryd.ntmps155
      go_wp2
      go_ret
      exact ⟨rfl, rfl⟩
  · have e : isR r = false := by simp [isR, h0]
    rw [e]
    clear hf e
    have hd0 : decide (0 ≤ r) = false := by simpa using h0
    have h0' : r < 0 := by omega
    go_enter Tryd.func155, Tryd.ntmps155
    go_wp2
    go_ret
    exact ⟨rfl, rfl⟩
end Go.Proofs.YtbfdomipkfbaeaaDoor
