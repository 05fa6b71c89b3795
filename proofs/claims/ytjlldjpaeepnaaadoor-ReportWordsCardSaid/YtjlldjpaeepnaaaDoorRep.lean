/- report.Class, report.Word; the document's -/
import Derived.Test.YtjlldjpaeepnaaaDoorRows
import Derived.WalkKit
import Derived.ProofKit
import Derived.OpenShut
import Derived.ShutString
import Derived.ChangeOld
import Derived.Below
import Derived.BigQuiet
import Derived.Deep.QuietTactic
import Derived.Lib.Hide
import Derived.Deep.RegionHeld3
import Derived.Lib.SlBytesConst
import Derived.Laws.CopyOwn
import Derived.Laws.CopyRow
import Derived.Lib.Bytes
import Derived.Deep.LoopGhost
import Derived.Deep.DeepFit
import Derived.Deep.DeepMust
import Derived.WalkSpells
import Derived.WalkLawsBesides
import Derived.Laws.EntriesVeiled
import Derived.Laws.Rows
import Derived.Test.YtjlldjpaeepnaaaDoorBase
import Derived.Test.YtjlldjpaeepnaaaDoorShelf
import Derived.Test.YtjlldjpaeepnaaaDoorCharPlain
namespace Go.Proofs.YtjlldjpaeepnaaaDoor
open Go.ChangeShapes Go.WideShapes Go.ChangeAt Go.RowKit
set_option linter.unusedVariables false
/-- The words by their numbers. -/
def classL : List (List UInt8) := [[110, 111, 110, 101], [109, 97, 108, 102, 111, 114, 109, 101, 100], [114, 101, 99, 117, 114, 115, 105, 118, 101], [110, 97, 109, 101, 115, 112, 97, 99, 101], [102, 101, 116, 99, 104], [108, 105, 109, 105, 116], [99, 111, 110, 102, 105, 103]]
def wordL : List (List UInt8) := [[111, 107], [110, 105, 108], [97, 114, 103], [114, 97, 110, 103, 101], [110, 111, 110, 101], [117, 116, 102], [99, 104, 97, 114], [102, 111, 114, 109], [108, 111, 111, 112], [115, 112, 97, 99, 101], [102, 101, 116, 99, 104], [108, 105, 109, 105, 116], [116, 119, 105, 99, 101], [98, 105, 103], [100, 111, 110, 101], [108, 105, 110, 101]]
def ofL (t : List (List UInt8)) (z : Int) : List UInt8 := if z < 0 ∨ (t.length : Int) ≤ z then [63] else t.getD z.toNat []
def classRow : List Value := [.string ⟨#[110, 111, 110, 101]⟩, .string ⟨#[109, 97, 108, 102, 111, 114, 109, 101, 100]⟩, .string ⟨#[114, 101, 99, 117, 114, 115, 105, 118, 101]⟩, .string ⟨#[110, 97, 109, 101, 115, 112, 97, 99, 101]⟩, .string ⟨#[102, 101, 116, 99, 104]⟩, .string ⟨#[108, 105, 109, 105, 116]⟩, .string ⟨#[99, 111, 110, 102, 105, 103]⟩]
def wordRow : List Value := [.string ⟨#[111, 107]⟩, .string ⟨#[110, 105, 108]⟩, .string ⟨#[97, 114, 103]⟩, .string ⟨#[114, 97, 110, 103, 101]⟩, .string ⟨#[110, 111, 110, 101]⟩, .string ⟨#[117, 116, 102]⟩, .string ⟨#[99, 104, 97, 114]⟩, .string ⟨#[102, 111, 114, 109]⟩, .string ⟨#[108, 111, 111, 112]⟩, .string ⟨#[115, 112, 97, 99, 101]⟩, .string ⟨#[102, 101, 116, 99, 104]⟩, .string ⟨#[108, 105, 109, 105, 116]⟩, .string ⟨#[116, 119, 105, 99, 101]⟩, .string ⟨#[98, 105, 103]⟩, .string ⟨#[100, 111, 110, 101]⟩, .string ⟨#[108, 105, 110, 101]⟩]
def TabS (w : World) (g : Nat) (t : List (List UInt8)) : Prop := ∀ i (x : List UInt8), t[i]? = some x → w.cell? ⟨g, i, none⟩ = some (.string ⟨x.toArray⟩)
theorem TabS.lt {w : World} {g : Nat} {t : List (List UInt8)} (h : TabS w g t) (hn : 0 < t.length) : g < w.heap.size := World.block_lt_of_cell? w _ (h 0 _ (List.getElem?_eq_getElem hn))
theorem TabS.below {w w' : World} {B g : Nat} {t : List (List UInt8)} (h : TabS w g t) (hb : Below B w w') (hB : g < B) : TabS w' g t := fun i x hx => by rw [hb.cell hB]; exact h i x hx
theorem TabS.of {w : World} {g : Nat} {T : TypeId} {f : Nat × Nat} (t : List (List UInt8)) (r : List Value) (hr : r = t.map fun x => Value.string ⟨x.toArray⟩) (h : w.heap[g]? = some (.cells r.toArray T f)) : TabS w g t := by
  intro i x hx
  rw [cell_of i h, hr]
  simp [hx]
theorem of_c (g n : Nat) (t : List (List UInt8)) (z : Int) (w : World) (hn : t.length = n) (hn' : n ≤ 1000) (h : TabS w g t) :
    Calls Tryd.prog 17 #[.slice (some ⟨g, 0, none⟩) n n, .int .i64 z] w fun e w' => e = .returned (.string ⟨(ofL t z).toArray⟩) ∧ w = w' := by
  by_cases h1 : z < 0
  · rw [show ofL t z = [63] by unfold ofL; rw [if_pos (Or.inl h1)]]
    clear h
    go_enter Tryd.func17, Tryd.ntmps17
    go_wp2
    go_ret
    exact ⟨rfl, rfl⟩
  · by_cases h2 : (n : Int) ≤ z
    · rw [show ofL t z = [63] by unfold ofL; rw [if_pos (Or.inr (by omega))]]
      clear h
      go_enter Tryd.func17, Tryd.ntmps17
      go_wp2
      go_ret
      exact ⟨rfl, rfl⟩
    · obtain ⟨k, rfl⟩ : ∃ k : Nat, z = k := ⟨z.toNat, by omega⟩
      have hk : k < t.length := by omega
      have hc := h k _ (List.getElem?_eq_getElem hk)
      rw [show ofL t (k : Int) = t[k] by unfold ofL; rw [if_neg (by omega)]; simp [List.getD, List.getElem?_eq_getElem hk]]
      generalize t[k] = x at hc
      clear h
      go_enter Tryd.func17, Tryd.ntmps17
      go_wp2
      go_ret
      exact ⟨rfl, rfl⟩
theorem repClass_c (z : Int) (w : World) (h : TabS w 0 classL) :
    Calls Tryd.prog 6 #[.int .i64 z] w fun e w' => e = .returned (.string ⟨(ofL classL z).toArray⟩) ∧ w = w' := by
  have c := Lib.hid (of_c 0 7 classL z w rfl (by decide) h)
  clear h
  generalize ofL classL z = r at *
  go_enter Tryd.func6, Tryd.ntmps6
  go_wp2_with fail
  refine c.out.mono ?_
  rintro e w' ⟨rfl, rfl⟩
  go_wp2
  go_ret
  exact ⟨rfl, rfl⟩
set_option maxRecDepth 100000 in
theorem refClass_c (z : Int) (w : World) :
    Calls Tryd.prog 7 #[.int .i64 z] w fun e w' => e = .returned (.string ⟨(ofL classL z).toArray⟩) ∧ Below w.heap.size w w' := by
  by_cases h1 : z < 0
  · rw [show ofL classL z = [63] by unfold ofL; rw [if_pos (Or.inl h1)]]
    go_enter Tryd.func7, Tryd.ntmps7
    go_wp2
    go_ret
    exact ⟨rfl, Below.refl _ _⟩
  · by_cases h2 : (6 : Int) < z
    · rw [show ofL classL z = [63] by unfold ofL; rw [if_pos (Or.inr (by simp [classL]; omega))]]
      go_enter Tryd.func7, Tryd.ntmps7
      go_wp2
      go_ret
      exact ⟨rfl, Below.refl _ _⟩
    · obtain ⟨k, rfl⟩ : ∃ k : Nat, z = k := ⟨z.toNat, by omega⟩
      have hk : k < classL.length := by simp [classL]; omega
      have hk' : k < 7 := hk
      rw [show ofL classL (k : Int) = classL[k] by unfold ofL; rw [if_neg (by omega), Int.toNat_natCast]; simp only [List.getD, List.getElem?_eq_getElem hk]; rfl]
      go_enter Tryd.func7, Tryd.ntmps7
      go_wp2
      go_ret
      refine ⟨?_, (Below.refl _ _).alloc (Nat.le_refl _) _⟩
      rcases (show k = 0 ∨ k = 1 ∨ k = 2 ∨ k = 3 ∨ k = 4 ∨ k = 5 ∨ k = 6 by omega) with rfl | rfl | rfl | rfl | rfl | rfl | rfl <;> rfl
theorem repWord_c (z : Int) (w : World) (h : TabS w 1 wordL) :
    Calls Tryd.prog 8 #[.int .i64 z] w fun e w' => e = .returned (.string ⟨(ofL wordL z).toArray⟩) ∧ w = w' := by
  have c := Lib.hid (of_c 1 16 wordL z w rfl (by decide) h)
  clear h
  generalize ofL wordL z = r at *
  go_enter Tryd.func8, Tryd.ntmps8
  go_wp2_with fail
  refine c.out.mono ?_
  rintro e w' ⟨rfl, rfl⟩
  go_wp2
  go_ret
  exact ⟨rfl, rfl⟩
set_option maxRecDepth 100000 in
theorem refWord_c (z : Int) (w : World) :
    Calls Tryd.prog 9 #[.int .i64 z] w fun e w' => e = .returned (.string ⟨(ofL wordL z).toArray⟩) ∧ Below w.heap.size w w' := by
  by_cases h1 : z < 0
  · rw [show ofL wordL z = [63] by unfold ofL; rw [if_pos (Or.inl h1)]]
    go_enter Tryd.func9, Tryd.ntmps9
    go_wp2
    go_ret
    exact ⟨rfl, Below.refl _ _⟩
  · by_cases h2 : (15 : Int) < z
    · rw [show ofL wordL z = [63] by unfold ofL; rw [if_pos (Or.inr (by simp [wordL]; omega))]]
      go_enter Tryd.func9, Tryd.ntmps9
      go_wp2
      go_ret
      exact ⟨rfl, Below.refl _ _⟩
    · obtain ⟨k, rfl⟩ : ∃ k : Nat, z = k := ⟨z.toNat, by omega⟩
      have hk : k < wordL.length := by simp [wordL]; omega
      have hk' : k < 16 := hk
      rw [show ofL wordL (k : Int) = wordL[k] by unfold ofL; rw [if_neg (by omega), Int.toNat_natCast]; simp only [List.getD, List.getElem?_eq_getElem hk]; rfl]
      go_enter Tryd.func9, Tryd.ntmps9
      go_wp2
      go_ret
      refine ⟨?_, (Below.refl _ _).alloc (Nat.le_refl _) _⟩
      rcases (show k = 0 ∨ k = 1 ∨ k = 2 ∨ k = 3 ∨ k = 4 ∨ k = 5 ∨ k = 6 ∨ k = 7 ∨ k = 8 ∨ k = 9 ∨ k = 10 ∨ k = 11 ∨ k = 12 ∨ k = 13 ∨ k = 14 ∨ k = 15 by omega) with rfl | rfl | rfl | rfl | rfl | rfl | rfl | rfl | rfl | rfl | rfl | rfl | rfl | rfl | rfl | rfl <;> rfl
end Go.Proofs.YtjlldjpaeepnaaaDoor
