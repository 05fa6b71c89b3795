/- Texts of ours, joined: Chars1, Utf3, Name1, Name2, Name3, Cref1, Ref1, Ref2, Ref3, Ref4, Ref5, Ref6, Ref7, Ref8, Ref9, Cref2, Dig, Num, LitP, Pub, Blank, Run, PlainP, NameA, Shelf2, Pfx, LibB, Bits, Whole, MiscP2, Misc1, Misc6, Misc7, Misc2, Misc3, Misc4, Misc5, Law08, Fold, Fold2, Misc8, Law08b, PutPi, CkP, CkW, StO. -/
import Derived.Test.YtocbofeanfdggaaDoorRows
import Derived.WalkKit
import Derived.ProofKit
import Derived.OpenShut
import Derived.ShutString
import Derived.ChangeOld
import Derived.Below
import Derived.BigQuiet
import Derived.Deep.QuietTactic
import Derived.Lib.Hide
import Derived.Deep.RegionHeld3
import Derived.Lib.SlBytesConst
import Derived.Laws.CopyOwn
import Derived.Laws.CopyRow
import Derived.Lib.Bytes
import Derived.Deep.LoopGhost
import Derived.Deep.DeepFit
import Derived.Deep.DeepMust
import Derived.WalkSpells
import Derived.WalkLawsBesides
import Derived.Test.YtocbofeanfdggaaDoorS1
import Derived.Test.YtocbofeanfdggaaDoorS3
import Derived.Test.YtocbofeanfdggaaDoorS4
import Derived.Laws.EntriesVeiled
import Derived.Laws.Rows
import Derived.Shelf.Bytes.SlSmallAll
import Derived.Lib.ConvBytes
import Derived.Lib.IndexMore
import Derived.Lib.IndexLaws
import Derived.Lib.Fold
import Derived.StillTailTactics
import Derived.Deep.RegionWith
import Derived.Test.YtocbofeanfdggaaDoorS2
import Derived.ScopeJumps
import Derived.Outline
import Derived.WalkMore
import Derived.Laws.RangeAny
import Derived.Lib.FieldsLaws
import Derived.Lib.Walk
import Derived.Lib.Strings
import Derived.Laws.Strings3
import Derived.Laws.BitsAllLaws
import Derived.Maps.OwnOps
import Derived.Maps.OwnSet
import Derived.Maps.Views
import Derived.Maps.AppendAt
import Derived.Lib.SmallJoins
import Derived.Deep.AppendLies
import Derived.Deep.RegionLaw
import Derived.Deep.DeepHandedRow
import Derived.Deep.SlicePairs
import Derived.Deep.Slices
import Derived.ChangeArms
/- Runs of numbers. -/
namespace Go.Proofs.YtocbofeanfdggaaDoor
open Go.ChangeShapes Go.WideShapes Go.ChangeAt Go.RowKit
set_option linter.unusedVariables false
/-- A table of runs of numbers, as memory holds it. -/
def Tab (w : World) (g : Nat) (t : List (Nat × Nat)) : Prop := ∀ i (p : Nat × Nat), t[i]? = some p → w.cell? ⟨g, i * 2, none⟩ = some (.int .i64 p.1) ∧ w.cell? ⟨g, i * 2 + 1, none⟩ = some (.int .i64 p.2)
theorem Tab.lt {w : World} {g : Nat} {t : List (Nat × Nat)} (h : Tab w g t) (hn : 0 < t.length) : g < w.heap.size := World.block_lt_of_cell? w _ (h 0 _ (List.getElem?_eq_getElem hn)).1
theorem Tab.below {w w' : World} {B g : Nat} {t : List (Nat × Nat)} (h : Tab w g t) (hb : Below B w w') (hB : g < B) : Tab w' g t := fun i p hp => by rw [hb.cell hB, hb.cell hB]; exact h i p hp
def tabDocs : List (Nat × Nat) := [(9, 10), (13, 13), (32, 55295), (57344, 65533), (65536, 1114111)]
def tabStarts : List (Nat × Nat) := [(58, 58), (65, 90), (95, 95), (97, 122), (192, 214), (216, 246), (248, 767), (880, 893), (895, 8191), (8204, 8205), (8304, 8591), (11264, 12271), (12289, 55295), (63744, 64975), (65008, 65533), (65536, 983039)]
def tabMore : List (Nat × Nat) := [(45, 46), (48, 57), (183, 183), (768, 879), (8255, 8256)]
/-- The tables of characters, as memory holds them. -/
structure Tabs (w : World) : Prop where
  docs : Tab w 3 tabDocs
  starts : Tab w 5 tabStarts
  more : Tab w 6 tabMore
/-- Every variable that is laid lies below B. -/
def Low (B : Nat) : Prop := 3 < B ∧ 5 < B ∧ 6 < B ∧ 9 < B
theorem Tabs.low {w : World} (h : Tabs w) (hF : Forms w) : Low w.heap.size := ⟨h.docs.lt (by decide), h.starts.lt (by decide), h.more.lt (by decide), hF.lt⟩
theorem Tabs.below {w w' : World} {B : Nat} (h : Tabs w) (hb : Below B w w') (hB : Low B) : Tabs w' := ⟨h.docs.below hb hB.1, h.starts.below hb hB.2.1, h.more.below hb hB.2.2.1⟩
theorem Tabs.drewN {w : World} (h : Tabs w) (n : Nat) : Tabs (w.drewN n) := ⟨fun i p hp => h.docs i p hp, fun i p hp => h.starts i p hp, fun i p hp => h.more i p hp⟩
/-- The tables of names alone. -/
structure TabN (w : World) : Prop where
  starts : Tab w 5 tabStarts
  more : Tab w 6 tabMore
def LowN (B : Nat) : Prop := 5 < B ∧ 6 < B ∧ 9 < B
theorem TabN.low {w : World} (h : TabN w) (hF : Forms w) : LowN w.heap.size := ⟨h.starts.lt (by decide), h.more.lt (by decide), hF.lt⟩
theorem TabN.below {w w' : World} {B : Nat} (h : TabN w) (hb : Below B w w') (hB : LowN B) : TabN w' := ⟨h.starts.below hb hB.1, h.more.below hb hB.2.1⟩
theorem TabN.drewN {w : World} (h : TabN w) (n : Nat) : TabN (w.drewN n) := ⟨fun i p hp => h.starts i p hp, fun i p hp => h.more i p hp⟩
theorem Tabs.n {w : World} (h : Tabs w) : TabN w := ⟨h.starts, h.more⟩
end Go.Proofs.YtocbofeanfdggaaDoor
/- utf.Decode whole. -/
namespace Go.Proofs.YtocbofeanfdggaaDoor
open Go.ChangeShapes Go.WideShapes Go.ChangeAt Go.RowKit
set_option linter.unusedVariables false
end Go.Proofs.YtocbofeanfdggaaDoor
/- Names. -/
namespace Go.Proofs.YtocbofeanfdggaaDoor
open Go.ChangeShapes Go.WideShapes Go.ChangeAt Go.RowKit
set_option linter.unusedVariables false
/-- What a function of a number says, whatever has come behind block B since. -/
def Says (fn : Nat) (cb : Array Value) (B : Nat) (w0 : World) (f : Int → Bool) : Prop :=
  ∀ (w1 : World) (r : Int), Below B w0 w1 → Calls Tryd.prog fn (#[.int .i64 r] ++ cb) w1 fun e w' => e = .returned (.bool (f r)) ∧ Below w1.heap.size w1 w'
theorem Says.below {fn : Nat} {cb : Array Value} {B : Nat} {w0 w1 : World} {f : Int → Bool} (h : Says fn cb B w0 f) (hb : Below B w0 w1) : Says fn cb B w1 f := fun w2 r h2 => h w2 r (hb.trans h2)
theorem Says.more {fn : Nat} {cb : Array Value} {B B' : Nat} {w0 : World} {f : Int → Bool} (h : Says fn cb B w0 f) (hB : B ≤ B') : Says fn cb B' w0 f := fun w2 r h2 => h w2 r (h2.mono hB)
end Go.Proofs.YtocbofeanfdggaaDoor
/- Names: the end. -/
namespace Go.Proofs.YtocbofeanfdggaaDoor
open Go.ChangeShapes Go.WideShapes Go.ChangeAt Go.RowKit
set_option linter.unusedVariables false
end Go.Proofs.YtocbofeanfdggaaDoor
/- Names: read. -/
namespace Go.Proofs.YtocbofeanfdggaaDoor
open Go.ChangeShapes Go.WideShapes Go.ChangeAt Go.RowKit
set_option linter.unusedVariables false
end Go.Proofs.YtocbofeanfdggaaDoor
/- References: by a mark. -/
namespace Go.Proofs.YtocbofeanfdggaaDoor
open Go.ChangeShapes Go.WideShapes Go.ChangeAt Go.RowKit
set_option linter.unusedVariables false
end Go.Proofs.YtocbofeanfdggaaDoor
/- The document's characters. -/
namespace Go.Proofs.YtocbofeanfdggaaDoor
open Go.ChangeShapes Go.WideShapes Go.ChangeAt Go.RowKit
set_option linter.unusedVariables false
end Go.Proofs.YtocbofeanfdggaaDoor
/- The document's beginnings of names. -/
namespace Go.Proofs.YtocbofeanfdggaaDoor
open Go.ChangeShapes Go.WideShapes Go.ChangeAt Go.RowKit
set_option linter.unusedVariables false
end Go.Proofs.YtocbofeanfdggaaDoor
/- The document's character at a place: its parts. -/
namespace Go.Proofs.YtocbofeanfdggaaDoor
open Go.ChangeShapes Go.WideShapes Go.ChangeAt Go.RowKit
set_option linter.unusedVariables false
end Go.Proofs.YtocbofeanfdggaaDoor
/- The document's character at a place: the plain law. -/
namespace Go.Proofs.YtocbofeanfdggaaDoor
open Go.ChangeShapes Go.WideShapes Go.ChangeAt Go.RowKit
set_option linter.unusedVariables false
def mk (least N r : Nat) : Option (Nat × Nat) := if least ≤ r ∧ isR r = true then some (r, N) else none
end Go.Proofs.YtocbofeanfdggaaDoor
/- The document's character at a place: the walk. -/
namespace Go.Proofs.YtocbofeanfdggaaDoor
open Go.ChangeShapes Go.WideShapes Go.ChangeAt Go.RowKit
set_option linter.unusedVariables false
end Go.Proofs.YtocbofeanfdggaaDoor
/- The document's name characters. -/
namespace Go.Proofs.YtocbofeanfdggaaDoor
open Go.ChangeShapes Go.WideShapes Go.ChangeAt Go.RowKit
set_option linter.unusedVariables false
end Go.Proofs.YtocbofeanfdggaaDoor
/- The document's names: the end. -/
namespace Go.Proofs.YtocbofeanfdggaaDoor
open Go.ChangeShapes Go.WideShapes Go.ChangeAt Go.RowKit
set_option linter.unusedVariables false
end Go.Proofs.YtocbofeanfdggaaDoor
/- The document's names: read. -/
namespace Go.Proofs.YtocbofeanfdggaaDoor
open Go.ChangeShapes Go.WideShapes Go.ChangeAt Go.RowKit
set_option linter.unusedVariables false
end Go.Proofs.YtocbofeanfdggaaDoor
/- The document's references by a mark. -/
namespace Go.Proofs.YtocbofeanfdggaaDoor
open Go.ChangeShapes Go.WideShapes Go.ChangeAt Go.RowKit
set_option linter.unusedVariables false
end Go.Proofs.YtocbofeanfdggaaDoor
/- References to entities at any place. -/
namespace Go.Proofs.YtocbofeanfdggaaDoor
open Go.ChangeShapes Go.WideShapes Go.ChangeAt Go.RowKit
set_option linter.unusedVariables false
end Go.Proofs.YtocbofeanfdggaaDoor
/- Digits. -/
namespace Go.Proofs.YtocbofeanfdggaaDoor
open Go.ChangeShapes Go.WideShapes Go.ChangeAt Go.RowKit
set_option linter.unusedVariables false
end Go.Proofs.YtocbofeanfdggaaDoor
/- Numbers in references to characters: plain law. -/
namespace Go.Proofs.YtocbofeanfdggaaDoor
open Go.ChangeShapes Go.WideShapes Go.ChangeAt Go.RowKit
set_option linter.unusedVariables false
end Go.Proofs.YtocbofeanfdggaaDoor
/- Quotes and references in texts: plain law. -/
namespace Go.Proofs.YtocbofeanfdggaaDoor
open Go.ChangeShapes Go.WideShapes Go.ChangeAt Go.RowKit
set_option linter.unusedVariables false
end Go.Proofs.YtocbofeanfdggaaDoor
/- Characters of public identifiers; classes. -/
namespace Go.Proofs.YtocbofeanfdggaaDoor
open Go.ChangeShapes Go.WideShapes Go.ChangeAt Go.RowKit
set_option linter.unusedVariables false
/-- The signs of a public identifier. -/
def signs : List UInt8 := [45, 39, 40, 41, 43, 44, 46, 47, 58, 61, 63, 59, 33, 42, 35, 64, 36, 95, 37]
end Go.Proofs.YtocbofeanfdggaaDoor
/- Blanks. -/
namespace Go.Proofs.YtocbofeanfdggaaDoor
open Go.ChangeShapes Go.WideShapes Go.ChangeAt Go.RowKit
set_option linter.unusedVariables false
end Go.Proofs.YtocbofeanfdggaaDoor
/- Characters of bytes, all. -/
namespace Go.Proofs.YtocbofeanfdggaaDoor
open Go.ChangeShapes Go.WideShapes Go.ChangeAt Go.RowKit
set_option linter.unusedVariables false
end Go.Proofs.YtocbofeanfdggaaDoor
/- Plain law of whole names. -/
namespace Go.Proofs.YtocbofeanfdggaaDoor
open Go.ChangeShapes Go.WideShapes Go.ChangeAt Go.RowKit
set_option linter.unusedVariables false
end Go.Proofs.YtocbofeanfdggaaDoor
/- Names, colons too. -/
namespace Go.Proofs.YtocbofeanfdggaaDoor
open Go.ChangeShapes Go.WideShapes Go.ChangeAt Go.RowKit
set_option linter.unusedVariables false
end Go.Proofs.YtocbofeanfdggaaDoor

/- bytes.HasPrefix. -/
namespace Go.Proofs.YtocbofeanfdggaaDoor
open Go.ChangeShapes Go.WideShapes Go.ChangeAt Go.RowKit
set_option linter.unusedVariables false
end Go.Proofs.YtocbofeanfdggaaDoor
/- Go's library, by its contracts off the shelf, in this seat's words. -/
namespace Go.Proofs.YtocbofeanfdggaaDoor
open Go.ChangeShapes Go.WideShapes Go.ChangeAt Go.RowKit
set_option linter.unusedVariables false
/-- What internal/bytealg.MaxLen holds: some number. -/
def MaxL (w : World) : Prop := ∃ m : Int, w.cell? ⟨4, 0, none⟩ = some (.int .i64 m)
theorem MaxL.lt {w : World} (h : MaxL w) : 4 < w.heap.size := by
  obtain ⟨m, hm⟩ := h
  exact World.block_lt_of_cell? w _ hm
theorem MaxL.below {w w' : World} {B : Nat} (h : MaxL w) (hb : Below B w w') (hB : 4 < B) : MaxL w' := by
  obtain ⟨m, hm⟩ := h
  exact ⟨m, by rw [hb.cell hB]; exact hm⟩
theorem MaxL.drewN {w : World} (h : MaxL w) (n : Nat) : MaxL (w.drewN n) := h
end Go.Proofs.YtocbofeanfdggaaDoor
/- Bytes of a string, of a constant. -/
namespace Go.Proofs.YtocbofeanfdggaaDoor
open Go.ChangeShapes Go.WideShapes Go.ChangeAt Go.RowKit
set_option linter.unusedVariables false
end Go.Proofs.YtocbofeanfdggaaDoor
/- Whole names. -/
namespace Go.Proofs.YtocbofeanfdggaaDoor
open Go.ChangeShapes Go.WideShapes Go.ChangeAt Go.RowKit
set_option linter.unusedVariables false
end Go.Proofs.YtocbofeanfdggaaDoor
/- Plain law: comments and marked texts as they are put. -/
namespace Go.Proofs.YtocbofeanfdggaaDoor
open Go.ChangeShapes Go.WideShapes Go.ChangeAt Go.RowKit
set_option linter.unusedVariables false
end Go.Proofs.YtocbofeanfdggaaDoor
/- narthexref08.At, Find. -/
namespace Go.Proofs.YtocbofeanfdggaaDoor
open Go.ChangeShapes Go.WideShapes Go.ChangeAt Go.RowKit
set_option linter.unusedVariables false
end Go.Proofs.YtocbofeanfdggaaDoor
/- narthexref08.Pi. -/
namespace Go.Proofs.YtocbofeanfdggaaDoor
open Go.ChangeShapes Go.WideShapes Go.ChangeAt Go.RowKit
set_option linter.unusedVariables false
end Go.Proofs.YtocbofeanfdggaaDoor
/- misc.Pi. -/
namespace Go.Proofs.YtocbofeanfdggaaDoor
open Go.ChangeShapes Go.WideShapes Go.ChangeAt Go.RowKit
set_option linter.unusedVariables false
end Go.Proofs.YtocbofeanfdggaaDoor
/- narthexref08.Comment, CData. -/
namespace Go.Proofs.YtocbofeanfdggaaDoor
open Go.ChangeShapes Go.WideShapes Go.ChangeAt Go.RowKit
set_option linter.unusedVariables false
end Go.Proofs.YtocbofeanfdggaaDoor
/- misc: what stands between marks: comments. -/
namespace Go.Proofs.YtocbofeanfdggaaDoor
open Go.ChangeShapes Go.WideShapes Go.ChangeAt Go.RowKit
set_option linter.unusedVariables false
/-- What stands while marks are read: below w all as it was, and the sort's own block. -/
def MkJ (p q : List UInt8) (fid : Nat) (w W : World) : Prop :=
  Below w.heap.size w W ∧ w.heap.size < W.heap.size ∧ W.cell? ⟨w.heap.size, 0, none⟩ = some (.string ⟨p.toArray⟩) ∧ W.cell? ⟨w.heap.size, 1, none⟩ = some (.string ⟨q.toArray⟩) ∧ W.cell? ⟨w.heap.size, 2, none⟩ = some (.func (.func fid) #[] #[])
theorem MkJ.kept {p q : List UInt8} {fid : Nat} {w W W' : World} (h : MkJ p q fid w W) (hb : Below W.heap.size W W') : MkJ p q fid w W' :=
  ⟨h.1.trans (hb.mono h.1.size), by have := hb.size; have := h.2.1; omega, by rw [hb.cell h.2.1]; exact h.2.2.1, by rw [hb.cell h.2.1]; exact h.2.2.2.1, by rw [hb.cell h.2.1]; exact h.2.2.2.2⟩
theorem MkJ.drewN {p q : List UInt8} {fid : Nat} {w W : World} (h : MkJ p q fid w W) (n : Nat) : MkJ p q fid w (W.drewN n) := h.kept (below_drewN' (Below.refl _ _))
end Go.Proofs.YtocbofeanfdggaaDoor
/- misc: what stands between marks: marked texts. -/
namespace Go.Proofs.YtocbofeanfdggaaDoor
open Go.ChangeShapes Go.WideShapes Go.ChangeAt Go.RowKit
set_option linter.unusedVariables false
end Go.Proofs.YtocbofeanfdggaaDoor
/- misc: comments and marked texts, read and written. -/
namespace Go.Proofs.YtocbofeanfdggaaDoor
open Go.ChangeShapes Go.WideShapes Go.ChangeAt Go.RowKit
set_option linter.unusedVariables false
end Go.Proofs.YtocbofeanfdggaaDoor
/- Statements of chapter 8. -/
namespace Go.Proofs.YtocbofeanfdggaaDoor
open Go.ChangeShapes Go.WideShapes Go.ChangeAt Go.RowKit
set_option linter.unusedVariables false
/-- What is asked of the world. -/
structure W8 (w : World) : Prop where
  tabs : TabN w
  forms : Forms w
  maxl : MaxL w
theorem W8.below {w w' : World} (h : W8 w) (hb : Below w.heap.size w w') : W8 w' := ⟨h.tabs.below hb (h.tabs.low h.forms), h.forms.below hb h.forms.lt, h.maxl.below hb h.maxl.lt⟩
end Go.Proofs.YtocbofeanfdggaaDoor
/- strings.EqualFold of what is not ASCII. -/
namespace Go.Proofs.YtocbofeanfdggaaDoor
open Go.ChangeShapes Go.WideShapes Go.ChangeAt Go.RowKit
set_option linter.unusedVariables false
/-- Letters that fold to one another and to nothing else, and signs that fold to themselves: of 'xml' and 'utf-8'. -/
def foldPairs : List (Nat × Nat) := [(120, 88), (88, 120), (109, 77), (77, 109), (108, 76), (76, 108), (117, 85), (85, 117), (116, 84), (84, 116), (102, 70), (70, 102), (45, 45), (56, 56)]
def FoldT (w : World) : Prop := ∀ p ∈ foldPairs, w.cell? ⟨10, p.1, none⟩ = some (.int .u16 (p.2 : Int))
theorem FoldT.lt {w : World} (h : FoldT w) : 10 < w.heap.size := World.block_lt_of_cell? w _ (h (120, 88) (by simp [foldPairs]))
theorem FoldT.below {w w' : World} {B : Nat} (h : FoldT w) (hb : Below B w w') (hB : 10 < B) : FoldT w' := fun p hp => by rw [hb.cell hB]; exact h p hp
end Go.Proofs.YtocbofeanfdggaaDoor
/- strings.EqualFold of texts of one length, of ASCII letters. -/
namespace Go.Proofs.YtocbofeanfdggaaDoor
open Go.ChangeShapes Go.WideShapes Go.ChangeAt Go.RowKit
set_option linter.unusedVariables false
end Go.Proofs.YtocbofeanfdggaaDoor
/- Reserved names. -/
namespace Go.Proofs.YtocbofeanfdggaaDoor
open Go.ChangeShapes Go.WideShapes Go.ChangeAt Go.RowKit
set_option linter.unusedVariables false
end Go.Proofs.YtocbofeanfdggaaDoor
/- The law MiscReads. -/
namespace Go.Proofs.YtocbofeanfdggaaDoor
open Go.ChangeShapes Go.WideShapes Go.ChangeAt Go.RowKit
set_option linter.unusedVariables false
structure W8F (w : World) : Prop extends W8 w where
  fold : FoldT w
theorem W8F.below {w w' : World} (h : W8F w) (hb : Below w.heap.size w w') : W8F w' := ⟨h.toW8.below hb, h.fold.below hb h.fold.lt⟩
end Go.Proofs.YtocbofeanfdggaaDoor
/- misc.PutPi. -/
namespace Go.Proofs.YtocbofeanfdggaaDoor
open Go.ChangeShapes Go.WideShapes Go.ChangeAt Go.RowKit
set_option linter.unusedVariables false
end Go.Proofs.YtocbofeanfdggaaDoor
/- The plain law of layer 40: an event, events. -/
namespace Go.Proofs.YtocbofeanfdggaaDoor
open Go.ChangeShapes Go.WideShapes Go.ChangeAt Go.RowKit
set_option linter.unusedVariables false
/-- An event, as both sides hold it: its attributes are names and values. -/
structure EvT where
  kind : Int
  sp : List UInt8
  lo : List UInt8
  ats : List (List UInt8 × List UInt8 × List UInt8)
  tx : List UInt8
def hasNm (acc : List (List UInt8 × List UInt8)) (n : List UInt8 × List UInt8) : Bool := acc.any fun m => decide (m = n)
end Go.Proofs.YtocbofeanfdggaaDoor
/- check's small functions. -/
namespace Go.Proofs.YtocbofeanfdggaaDoor
open Go.ChangeShapes Go.WideShapes Go.ChangeAt Go.RowKit
set_option linter.unusedVariables false
def cN (x : List UInt8 × List UInt8) : List Value := [.string ⟨x.1.toArray⟩, .string ⟨x.2.toArray⟩]
def cA (x : List UInt8 × List UInt8 × List UInt8) : List Value := [.string ⟨x.1.toArray⟩, .string ⟨x.2.1.toArray⟩, .string ⟨x.2.2.toArray⟩]
end Go.Proofs.YtocbofeanfdggaaDoor
/- A row of strings as a parameter. -/
namespace Go.Proofs.YtocbofeanfdggaaDoor
open Go.ChangeShapes Go.WideShapes Go.ChangeAt Go.RowKit
set_option linter.unusedVariables false
open Go.Deep in
/-- A reading of a row of strings is a row that can be read. -/
theorem srd_of_trod {H : Type} {enc : TypeId × Value → H} {W : World} {n : Nat} {v : Value} {x : DataW H × List MemPlace} (h : DataW.trod enc Tryd.prog W 0 (fun _ => true) true n 23 [v] = some x) :
    ∃ A len cap ss, v = .slice A len cap ∧ RRd (fun s : List UInt8 => [Value.string ⟨s.toArray⟩]) 1 W W.heap.size A len cap ss ∧ ∀ s ∈ ss, s.length ≤ maxLen := by
  rcases open_slice1 Tryd.underlying23 (by kernel_rfl) h with ⟨hc, _⟩ | ⟨a, len, cap, m, k, V, D, Pl, hc, hb, hl, hm, hmm, _, hi⟩
  · simp at hc
    subst hc
    exact ⟨none, 0, 0, [], rfl, RRd.nilR _ _ W _, fun s hs => by cases hs⟩
  · simp at hc
    subst hc
    have hmc : m = cap := by simpa using hmm
    subst hmc
    have key : ∀ i, i < m → ∃ s : List UInt8, W.cell? (a.add i) = some (.string ⟨s.toArray⟩) ∧ s.length ≤ maxLen := by
      intro i hi'
      obtain ⟨c0, t0⟩ := hi i hi'
      obtain ⟨s0, e0, _, z0⟩ := DataW.trod_string Tryd.underlying9 t0
      simp at e0
      exact ⟨s0.data.toList, by rw [c0, e0], by rw [Array.length_toList]; exact z0⟩
    obtain ⟨f, hf⟩ := choose_lt key
    refine ⟨some a, len, m, (List.range len).map f, rfl, ⟨by simp, hl, hm, (fun e => by cases e), fun h0 => ?_⟩, ?_⟩
    · obtain ⟨b, o, s⟩ := a
      have h1 := (hf 0 h0).1
      have hs : s = none := by simpa [Addr.add] using World.cell?_spot h1
      subst hs
      refine ⟨b, o, rfl, by simpa [Addr.add] using World.block_lt_of_cell? W _ h1, fun i p hp j u hu => ?_⟩
      rw [List.getElem?_map] at hp
      have hil : i < len := by
        rcases Nat.lt_or_ge i len with h' | h'
        · exact h'
        · rw [List.getElem?_eq_none (by simp; omega)] at hp; cases hp
      rw [List.getElem?_range hil] at hp
      simp at hp
      subst hp
      have h2 := (hf i (by omega)).1
      rw [addr_add] at h2
      match j with
      | 0 => cases hu; rw [Nat.mul_one, Nat.add_zero]; exact h2
      | j + 1 => simp at hu
    · intro p hp
      obtain ⟨i, hi', rfl⟩ := List.mem_map.1 hp
      exact (hf i (by have := List.mem_range.1 hi'; omega)).2
end Go.Proofs.YtocbofeanfdggaaDoor
