/- The reader of lines; what the walks over cases ask of the world. -/
import Derived.Test.YtbllodeanfdebaaGreatDoorRows
import Derived.WalkKit
import Derived.ProofKit
import Derived.OpenShut
import Derived.ShutString
import Derived.ChangeOld
import Derived.Below
import Derived.BigQuiet
import Derived.Deep.QuietTactic
import Derived.Lib.Hide
import Derived.Deep.RegionHeld3
import Derived.Lib.SlBytesConst
import Derived.Laws.CopyOwn
import Derived.Laws.CopyRow
import Derived.Lib.Bytes
import Derived.Deep.LoopGhost
import Derived.Deep.DeepFit
import Derived.Deep.DeepMust
import Derived.WalkSpells
import Derived.WalkLawsBesides
import Derived.Laws.EntriesVeiled
import Derived.Laws.Rows
import Derived.Lib.LaidTab
import Derived.Shelf.Strconv.Itoa3
import Derived.Lib.AppendIntMem
import Derived.Test.YtbllodeanfdebaaGreatDoorShelf
import Derived.Test.YtbllodeanfdebaaGreatDoorBase
import Derived.Test.YtbllodeanfdebaaGreatDoorCsE
namespace Go.Proofs.YtbllodeanfdebaaGreatDoor
open Go.ChangeShapes Go.WideShapes Go.ChangeAt Go.RowKit
set_option linter.unusedVariables false
/-- A reader of lines in block b: what is left, how many lines were taken. -/
def LnAt (w : World) (b : Nat) (r : List UInt8) (t : Nat) : Prop := w.heap[b]? = some (.cells #[.string ⟨r.toArray⟩, .int .i64 (t : Int)] 55)
theorem LnAt.lt {w : World} {b : Nat} {r : List UInt8} {t : Nat} (h : LnAt w b r t) : b < w.heap.size := lt_of h
theorem LnAt.drewN {w : World} {b n : Nat} {r : List UInt8} {t : Nat} (h : LnAt w b r t) : LnAt (w.drewN n) b r t := h
theorem LnAt.below {w w' : World} {b : Nat} {r : List UInt8} {t : Nat} (h : LnAt w b r t) (hb : Below w.heap.size w w') : LnAt w' b r t := by
  unfold LnAt
  rw [hb.block b h.lt]
  exact h
/-- What the walks over cases ask of the world: tables and variables that lie below block B. -/
structure WC (B : Nat) (w : World) : Prop where
  max : ∃ m : Int, w.cell? ⟨2, 0, none⟩ = some (.int .i64 m)
  maxB : 2 < B
  syn : ∃ t p, w.cell? ⟨3, 0, none⟩ = some (.iface t p)
  synB : 3 < B
  rng : ∃ t p, w.cell? ⟨4, 0, none⟩ = some (.iface t p)
  rngB : 4 < B
  size : B ≤ w.heap.size
  pow : ∀ W : World, (∀ k, k < B → W.heap[k]? = w.heap[k]?) → Lib.TabIs Tryz.prog W "internal/strconv.uint64pow10" .u64 Lib.pow10Tab
theorem WC.below {B : Nat} {w w' : World} (h : WC B w) (hb : Below B w w') : WC B w' := by
  obtain ⟨⟨m, h1⟩, h2, ⟨t3, p3, h3⟩, h4, ⟨t5, p5, h5⟩, h6, h7, h8⟩ := h
  exact ⟨⟨m, (hb.cell h2).trans h1⟩, h2, ⟨t3, p3, (hb.cell h4).trans h3⟩, h4, ⟨t5, p5, (hb.cell h6).trans h5⟩, h6, Nat.le_trans h7 hb.size, fun W hW => h8 W fun k hk => (hW k hk).trans (hb.block k hk)⟩
theorem WC.drewN {B n : Nat} {w : World} (h : WC B w) : WC B (w.drewN n) := h.below (below_drewN' (Below.refl B w))
theorem WC.up {B : Nat} {w w' : World} (h : WC B w) (hb : Below w.heap.size w w') : WC B w' := h.below (hb.mono h.size)
theorem WC.gr {B b : Nat} {w w' : World} (h : WC B w) (hB : B ≤ b) (hg : w.grownBy w' (some b)) : WC B w' :=
  h.below (hg.below h.size hB)
theorem WC.tab {B : Nat} {w : World} (h : WC B w) : Lib.TabIs Tryz.prog w "internal/strconv.uint64pow10" .u64 Lib.pow10Tab := h.pow w fun _ _ => rfl
theorem tabIs_of {w : World} {name : String} {k : IntKind} {zs : List Int} (h : Lib.TabIs Tryz.prog w name k zs) (W : World) (hb : ∀ k, k < w.heap.size → W.heap[k]? = w.heap[k]?) : Lib.TabIs Tryz.prog W name k zs := by
  unfold Lib.TabIs World.var? at *
  obtain ⟨g, hg, h⟩ := Option.bind_eq_some_iff.1 h
  rw [hg, Option.bind_some]
  cases ho : w.heap[g]? with
  | none => rw [ho] at h; cases h
  | some o =>
    rw [hb g (lt_of ho), ho]
    rw [ho] at h
    exact h
theorem grow_belowC {w w' : World} (h : ∃ k os, w' = Sort.grow (w.drewN k) os) : Below w.heap.size w w' := by
  obtain ⟨k, os, rfl⟩ := h
  exact Lib.below_grow _ w (Nat.le_refl _) k os
def lineV (t : Nat) : List PanicEntry := [{ v := .iface 51 (.agg #[.int .i64 (t : Int)]), recovered := false }]
/-- What 'take' gives: what stands behind the word in the next line, and the lines behind. -/
def takeP (b : List UInt8) : List (List UInt8) → Option (List UInt8 × List (List UInt8))
  | [] => none
  | x :: r => if b.isPrefixOf x = true then some (x.drop b.length, r) else none
/-- What 'named' gives. -/
def namedP (b : List UInt8) : List (List UInt8) → Option (List UInt8 × List (List UInt8))
  | [] => none
  | x :: r => if beginsL b x = true then some (x.drop b.length, r) else none
end Go.Proofs.YtbllodeanfdebaaGreatDoor
