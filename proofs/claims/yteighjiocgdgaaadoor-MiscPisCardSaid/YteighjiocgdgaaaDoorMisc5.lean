/- misc: comments and marked texts, read and written. -/
import Derived.Test.YteighjiocgdgaaaDoorRows
import Derived.WalkKit
import Derived.ProofKit
import Derived.OpenShut
import Derived.ShutString
import Derived.ChangeOld
import Derived.Below
import Derived.BigQuiet
import Derived.Deep.QuietTactic
import Derived.Lib.Hide
import Derived.Deep.RegionHeld3
import Derived.Lib.SlBytesConst
import Derived.Laws.CopyOwn
import Derived.Laws.CopyRow
import Derived.Lib.Bytes
import Derived.Deep.LoopGhost
import Derived.Deep.DeepFit
import Derived.Deep.DeepMust
import Derived.WalkSpells
import Derived.WalkLawsBesides
import Derived.Laws.EntriesVeiled
import Derived.Laws.Rows
import Derived.Test.YteighjiocgdgaaaDoorBase
import Derived.Test.YteighjiocgdgaaaDoorShelf
import Derived.Test.YteighjiocgdgaaaDoorCharPlain
import Derived.Test.YteighjiocgdgaaaDoorName1
import Derived.Test.YteighjiocgdgaaaDoorName2
import Derived.Test.YteighjiocgdgaaaDoorName3
import Derived.Test.YteighjiocgdgaaaDoorBuild
import Derived.Test.YteighjiocgdgaaaDoorEsc
import Derived.Test.YteighjiocgdgaaaDoorStr
import Derived.Test.YteighjiocgdgaaaDoorLibB
import Derived.Test.YteighjiocgdgaaaDoorMiscP
import Derived.Test.YteighjiocgdgaaaDoorMisc1
import Derived.Test.YteighjiocgdgaaaDoorMisc2
import Derived.Test.YteighjiocgdgaaaDoorMisc3
import Derived.Test.YteighjiocgdgaaaDoorMisc4
namespace Go.Proofs.YteighjiocgdgaaaDoor
open Go.ChangeShapes Go.WideShapes Go.ChangeAt Go.RowKit
set_option linter.unusedVariables false
def anyAt (f : List UInt8 → Nat → List UInt8 × Nat × Nat) (l : List UInt8) (at_ : Int) : List UInt8 × Nat × Nat := if at_ < 0 ∨ (l.length : Int) < at_ then ([], 0, 3) else f l at_.toNat
theorem anyAt_in (f : List UInt8 → Nat → List UInt8 × Nat × Nat) (l : List UInt8) (k : Nat) (h : k ≤ l.length) : anyAt f l k = f l k := by
  unfold anyAt
  rw [if_neg (by omega), Int.toNat_natCast]
set_option maxRecDepth 100000 in
set_option maxHeartbeats 4000000 in
theorem refCommentAt_c (A : Option Addr) (n cap : Nat) (l : List UInt8) (at_ : Int) (B : Nat) (w : World) (h : Byt w B A n cap l) (hm : n ≤ 100000) :
    Calls Tryd.prog 37 #[.slice A n cap, .int .i64 at_] w fun e w' => e = .returned (outV (anyAt commentOut l at_)) ∧ w = w' := by
  by_cases ha : at_ < 0 ∨ (n : Int) < at_
  · have : anyAt commentOut l at_ = ([], 0, 3) := by unfold anyAt; rw [h.length, if_pos ha]
    rw [this]
    exact refComment_range A n cap at_ w ha
  · obtain ⟨k, rfl⟩ : ∃ k : Nat, at_ = (k : Int) := ⟨at_.toNat, by omega⟩
    rw [anyAt_in _ _ _ (by rw [h.length]; omega)]
    exact refComment_c A n cap l k B w h hm (by omega)
set_option maxRecDepth 100000 in
set_option maxHeartbeats 4000000 in
theorem miscComment_c (A : Option Addr) (n cap : Nat) (l : List UInt8) (at_ : Int) (w : World) (h : Byt w w.heap.size A n cap l) (hM : MaxL w) (hm : n ≤ 100000) :
    Calls Tryd.prog 36 #[.slice A n cap, .int .i64 at_] w fun e w' => e = .returned (outV (anyAt commentOut l at_)) ∧ Below w.heap.size w w' := by
  have C1 := Lib.hid (comments_c w)
  have C2 : Hid (∀ W, Below w.heap.size w W → Calls Tryd.prog 82 #[commentsV, .slice A n cap, .int .i64 at_] W fun e w' => e = .returned (outV (anyAt commentOut l at_)) ∧ Below W.heap.size W w') := Lib.hid fun W hb => by
    by_cases ha : at_ < 0 ∨ (n : Int) < at_
    · have : anyAt commentOut l at_ = ([], 0, 3) := by unfold anyAt; rw [h.length, if_pos ha]
      rw [this]
      exact commentsRead_range A n cap at_ W ha
    · obtain ⟨k, rfl⟩ : ∃ k : Nat, at_ = (k : Int) := ⟨at_.toNat, by omega⟩
      rw [anyAt_in _ _ _ (by rw [h.length]; omega), ← marked_comment l k (by rw [h.length]; omega)]
      exact commentsRead_c A n cap l k W ((h.below hb).more hb.size) (hM.below hb hM.lt) hm (by omega)
  clear h hM hm
  generalize anyAt commentOut l at_ = r at *
  unfold outV at *
  go_enter Tryd.func36, Tryd.ntmps36
  go_wp2_with fail
  refine (C1.out).mono ?_
  rintro e w1 ⟨rfl, hb⟩
  have B1 := Lib.hid hb
  clear hb
  go_wp2_with fail
  refine (C2.out _ B1.out).mono ?_
  rintro e w2 ⟨rfl, hb⟩
  have B2 := Lib.hid (B1.out.trans (hb.mono B1.out.size))
  clear hb
  go_wp2
  go_ret3
  exact ⟨rfl, B2.out⟩
def putCommentOut (s : List UInt8) : List UInt8 × Nat := if mayComment s = true then ([60, 33, 45, 45] ++ s ++ [45, 45, 62], 0) else ([], 7)
set_option maxRecDepth 100000 in
set_option maxHeartbeats 4000000 in
theorem commentsWrite_c (s : List UInt8) (w : World) (hM : MaxL w) (hs : s.length ≤ 100000) :
    Calls Tryd.prog 87 #[commentsV, .string ⟨s.toArray⟩] w fun e w' => e = .returned (.tuple #[.string ⟨(putCommentOut s).1.toArray⟩, .int .i64 ((putCommentOut s).2 : Int)]) ∧ Below w.heap.size w w' := by
  have f0 := hp_new w (.cells #[.string ⟨#[60, 33, 45, 45]⟩, .string ⟨#[45, 45, 62]⟩, .func (.func 119) #[] #[]] 110)
  have z0 : (w.alloc (.cells #[.string ⟨#[60, 33, 45, 45]⟩, .string ⟨#[45, 45, 62]⟩, .func (.func 119) #[] #[]] 110)).cell? ⟨w.heap.size, 0, none⟩ = some (.string ⟨#[60, 33, 45, 45]⟩) := cell_of 0 f0
  have z1 : (w.alloc (.cells #[.string ⟨#[60, 33, 45, 45]⟩, .string ⟨#[45, 45, 62]⟩, .func (.func 119) #[] #[]] 110)).cell? ⟨w.heap.size, 1, none⟩ = some (.string ⟨#[45, 45, 62]⟩) := cell_of 1 f0
  have z2 : (w.alloc (.cells #[.string ⟨#[60, 33, 45, 45]⟩, .string ⟨#[45, 45, 62]⟩, .func (.func 119) #[] #[]] 110)).cell? ⟨w.heap.size, 2, none⟩ = some (.func (.func 119) #[] #[]) := cell_of 2 f0
  have hb0 := Lib.hid (Below.alloc (Below.refl w.heap.size w) (Nat.le_refl _) (.cells #[.string ⟨#[60, 33, 45, 45]⟩, .string ⟨#[45, 45, 62]⟩, .func (.func 119) #[] #[]] 110))
  have C1 := Lib.hid (comments1_c s (w.alloc (.cells #[.string ⟨#[60, 33, 45, 45]⟩, .string ⟨#[45, 45, 62]⟩, .func (.func 119) #[] #[]] 110)) (hM.below hb0.out hM.lt) (by omega))
  have hct : ∀ W, (Op.stringOp .add ⟨#[60, 33, 45, 45]⟩ ⟨s.toArray⟩).run Tryd.prog W = .ok (.string ⟨([60, 33, 45, 45] ++ s).toArray⟩) W := fun W => run_sop (w := W) [60, 33, 45, 45] s (by simp; omega)
  have hct2 : ∀ W, (Op.stringOp .add ⟨([60, 33, 45, 45] ++ s).toArray⟩ ⟨#[45, 45, 62]⟩).run Tryd.prog W = .ok (.string ⟨([60, 33, 45, 45] ++ s ++ [45, 45, 62]).toArray⟩) W := fun W => run_sop (w := W) ([60, 33, 45, 45] ++ s) [45, 45, 62] (by simp; omega)
  clear f0 hM hs
  unfold putCommentOut commentsV
  generalize mayComment s = my at *
  cases my
  · simp only [Bool.false_eq_true, if_false]
    clear hct hct2
    go_enter Tryd.func87, Tryd.ntmps87
    go_wp2_with fail
    refine (C1.out).mono ?_
    rintro e wq ⟨rfl, rfl⟩
    go_wp2
    go_ret2
    exact ⟨rfl, hb0.out⟩
  · simp only [if_true]
    generalize [60, 33, 45, 45] ++ s ++ [45, 45, 62] = s3 at *
    generalize [60, 33, 45, 45] ++ s = s2 at *
    go_enter Tryd.func87, Tryd.ntmps87
    go_wp2_with fail
    refine (C1.out).mono ?_
    rintro e wq ⟨rfl, rfl⟩
    go_wp2
    go_ret2
    exact ⟨rfl, hb0.out⟩
set_option maxRecDepth 100000 in
set_option maxHeartbeats 4000000 in
theorem miscPutComment_c (s : List UInt8) (w : World) (hM : MaxL w) (hs : s.length ≤ 100000) :
    Calls Tryd.prog 42 #[.string ⟨s.toArray⟩] w fun e w' => e = .returned (.tuple #[.string ⟨(putCommentOut s).1.toArray⟩, .int .i64 ((putCommentOut s).2 : Int)]) ∧ Below w.heap.size w w' := by
  have C1 := Lib.hid (comments_c w)
  have C2 : Hid (∀ W, Below w.heap.size w W → Calls Tryd.prog 87 #[commentsV, .string ⟨s.toArray⟩] W fun e w' => e = .returned (.tuple #[.string ⟨(putCommentOut s).1.toArray⟩, .int .i64 ((putCommentOut s).2 : Int)]) ∧ Below W.heap.size W w') := Lib.hid fun W hb => commentsWrite_c s W (hM.below hb hM.lt) hs
  clear hM hs
  generalize putCommentOut s = r at *
  go_enter Tryd.func42, Tryd.ntmps42
  go_wp2_with fail
  refine (C1.out).mono ?_
  rintro e w1 ⟨rfl, hb⟩
  have B1 := Lib.hid hb
  clear hb
  go_wp2_with fail
  refine (C2.out _ B1.out).mono ?_
  rintro e w2 ⟨rfl, hb⟩
  have B2 := Lib.hid (B1.out.trans (hb.mono B1.out.size))
  clear hb
  go_wp2
  go_ret2
  exact ⟨rfl, B2.out⟩
set_option maxRecDepth 100000 in
set_option maxHeartbeats 4000000 in
theorem refCDataAt_c (A : Option Addr) (n cap : Nat) (l : List UInt8) (at_ : Int) (B : Nat) (w : World) (h : Byt w B A n cap l) (hm : n ≤ 100000) :
    Calls Tryd.prog 39 #[.slice A n cap, .int .i64 at_] w fun e w' => e = .returned (outV (anyAt cdataOut l at_)) ∧ w = w' := by
  by_cases ha : at_ < 0 ∨ (n : Int) < at_
  · have : anyAt cdataOut l at_ = ([], 0, 3) := by unfold anyAt; rw [h.length, if_pos ha]
    rw [this]
    exact refCData_range A n cap at_ w ha
  · obtain ⟨k, rfl⟩ : ∃ k : Nat, at_ = (k : Int) := ⟨at_.toNat, by omega⟩
    rw [anyAt_in _ _ _ (by rw [h.length]; omega)]
    exact refCData_c A n cap l k B w h hm (by omega)
set_option maxRecDepth 100000 in
set_option maxHeartbeats 4000000 in
theorem miscCData_c (A : Option Addr) (n cap : Nat) (l : List UInt8) (at_ : Int) (w : World) (h : Byt w w.heap.size A n cap l) (hM : MaxL w) (hm : n ≤ 100000) :
    Calls Tryd.prog 38 #[.slice A n cap, .int .i64 at_] w fun e w' => e = .returned (outV (anyAt cdataOut l at_)) ∧ Below w.heap.size w w' := by
  have C1 := Lib.hid (cdatas_c w)
  have C2 : Hid (∀ W, Below w.heap.size w W → Calls Tryd.prog 82 #[cdatasV, .slice A n cap, .int .i64 at_] W fun e w' => e = .returned (outV (anyAt cdataOut l at_)) ∧ Below W.heap.size W w') := Lib.hid fun W hb => by
    by_cases ha : at_ < 0 ∨ (n : Int) < at_
    · have : anyAt cdataOut l at_ = ([], 0, 3) := by unfold anyAt; rw [h.length, if_pos ha]
      rw [this]
      exact cdatasRead_range A n cap at_ W ha
    · obtain ⟨k, rfl⟩ : ∃ k : Nat, at_ = (k : Int) := ⟨at_.toNat, by omega⟩
      rw [anyAt_in _ _ _ (by rw [h.length]; omega), ← marked_cdata l k (by rw [h.length]; omega)]
      exact cdatasRead_c A n cap l k W ((h.below hb).more hb.size) (hM.below hb hM.lt) hm (by omega)
  clear h hM hm
  generalize anyAt cdataOut l at_ = r at *
  unfold outV at *
  go_enter Tryd.func38, Tryd.ntmps38
  go_wp2_with fail
  refine (C1.out).mono ?_
  rintro e w1 ⟨rfl, hb⟩
  have B1 := Lib.hid hb
  clear hb
  go_wp2_with fail
  refine (C2.out _ B1.out).mono ?_
  rintro e w2 ⟨rfl, hb⟩
  have B2 := Lib.hid (B1.out.trans (hb.mono B1.out.size))
  clear hb
  go_wp2
  go_ret3
  exact ⟨rfl, B2.out⟩
def putCDataOut (s : List UInt8) : List UInt8 × Nat := if mayCData s = true then ([60, 33, 91, 67, 68, 65, 84, 65, 91] ++ s ++ [93, 93, 62], 0) else ([], 7)
set_option maxRecDepth 100000 in
set_option maxHeartbeats 4000000 in
theorem cdatasWrite_c (s : List UInt8) (w : World) (hM : MaxL w) (hs : s.length ≤ 100000) :
    Calls Tryd.prog 87 #[cdatasV, .string ⟨s.toArray⟩] w fun e w' => e = .returned (.tuple #[.string ⟨(putCDataOut s).1.toArray⟩, .int .i64 ((putCDataOut s).2 : Int)]) ∧ Below w.heap.size w w' := by
  have f0 := hp_new w (.cells #[.string ⟨#[60, 33, 91, 67, 68, 65, 84, 65, 91]⟩, .string ⟨#[93, 93, 62]⟩, .func (.func 120) #[] #[]] 110)
  have z0 : (w.alloc (.cells #[.string ⟨#[60, 33, 91, 67, 68, 65, 84, 65, 91]⟩, .string ⟨#[93, 93, 62]⟩, .func (.func 120) #[] #[]] 110)).cell? ⟨w.heap.size, 0, none⟩ = some (.string ⟨#[60, 33, 91, 67, 68, 65, 84, 65, 91]⟩) := cell_of 0 f0
  have z1 : (w.alloc (.cells #[.string ⟨#[60, 33, 91, 67, 68, 65, 84, 65, 91]⟩, .string ⟨#[93, 93, 62]⟩, .func (.func 120) #[] #[]] 110)).cell? ⟨w.heap.size, 1, none⟩ = some (.string ⟨#[93, 93, 62]⟩) := cell_of 1 f0
  have z2 : (w.alloc (.cells #[.string ⟨#[60, 33, 91, 67, 68, 65, 84, 65, 91]⟩, .string ⟨#[93, 93, 62]⟩, .func (.func 120) #[] #[]] 110)).cell? ⟨w.heap.size, 2, none⟩ = some (.func (.func 120) #[] #[]) := cell_of 2 f0
  have hb0 := Lib.hid (Below.alloc (Below.refl w.heap.size w) (Nat.le_refl _) (.cells #[.string ⟨#[60, 33, 91, 67, 68, 65, 84, 65, 91]⟩, .string ⟨#[93, 93, 62]⟩, .func (.func 120) #[] #[]] 110))
  have C1 := Lib.hid (cdatas1_c s (w.alloc (.cells #[.string ⟨#[60, 33, 91, 67, 68, 65, 84, 65, 91]⟩, .string ⟨#[93, 93, 62]⟩, .func (.func 120) #[] #[]] 110)) (hM.below hb0.out hM.lt) (by omega))
  have hct : ∀ W, (Op.stringOp .add ⟨#[60, 33, 91, 67, 68, 65, 84, 65, 91]⟩ ⟨s.toArray⟩).run Tryd.prog W = .ok (.string ⟨([60, 33, 91, 67, 68, 65, 84, 65, 91] ++ s).toArray⟩) W := fun W => run_sop (w := W) [60, 33, 91, 67, 68, 65, 84, 65, 91] s (by simp; omega)
  have hct2 : ∀ W, (Op.stringOp .add ⟨([60, 33, 91, 67, 68, 65, 84, 65, 91] ++ s).toArray⟩ ⟨#[93, 93, 62]⟩).run Tryd.prog W = .ok (.string ⟨([60, 33, 91, 67, 68, 65, 84, 65, 91] ++ s ++ [93, 93, 62]).toArray⟩) W := fun W => run_sop (w := W) ([60, 33, 91, 67, 68, 65, 84, 65, 91] ++ s) [93, 93, 62] (by simp; omega)
  clear f0 hM hs
  unfold putCDataOut cdatasV
  generalize mayCData s = my at *
  cases my
  · simp only [Bool.false_eq_true, if_false]
    clear hct hct2
    go_enter Tryd.func87, Tryd.ntmps87
    go_wp2_with fail
    refine (C1.out).mono ?_
    rintro e wq ⟨rfl, rfl⟩
    go_wp2
    go_ret2
    exact ⟨rfl, hb0.out⟩
  · simp only [if_true]
    generalize [60, 33, 91, 67, 68, 65, 84, 65, 91] ++ s ++ [93, 93, 62] = s3 at *
    generalize [60, 33, 91, 67, 68, 65, 84, 65, 91] ++ s = s2 at *
    go_enter Tryd.func87, Tryd.ntmps87
    go_wp2_with fail
    refine (C1.out).mono ?_
    rintro e wq ⟨rfl, rfl⟩
    go_wp2
    go_ret2
    exact ⟨rfl, hb0.out⟩
set_option maxRecDepth 100000 in
set_option maxHeartbeats 4000000 in
theorem miscPutCData_c (s : List UInt8) (w : World) (hM : MaxL w) (hs : s.length ≤ 100000) :
    Calls Tryd.prog 44 #[.string ⟨s.toArray⟩] w fun e w' => e = .returned (.tuple #[.string ⟨(putCDataOut s).1.toArray⟩, .int .i64 ((putCDataOut s).2 : Int)]) ∧ Below w.heap.size w w' := by
  have C1 := Lib.hid (cdatas_c w)
  have C2 : Hid (∀ W, Below w.heap.size w W → Calls Tryd.prog 87 #[cdatasV, .string ⟨s.toArray⟩] W fun e w' => e = .returned (.tuple #[.string ⟨(putCDataOut s).1.toArray⟩, .int .i64 ((putCDataOut s).2 : Int)]) ∧ Below W.heap.size W w') := Lib.hid fun W hb => cdatasWrite_c s W (hM.below hb hM.lt) hs
  clear hM hs
  generalize putCDataOut s = r at *
  go_enter Tryd.func44, Tryd.ntmps44
  go_wp2_with fail
  refine (C1.out).mono ?_
  rintro e w1 ⟨rfl, hb⟩
  have B1 := Lib.hid hb
  clear hb
  go_wp2_with fail
  refine (C2.out _ B1.out).mono ?_
  rintro e w2 ⟨rfl, hb⟩
  have B2 := Lib.hid (B1.out.trans (hb.mono B1.out.size))
  clear hb
  go_wp2
  go_ret2
  exact ⟨rfl, B2.out⟩
end Go.Proofs.YteighjiocgdgaaaDoor
