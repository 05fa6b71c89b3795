/- Texts of ours, joined: Grow. -/
import Derived.Test.YtocbofeanfdggaaDoorRows
import Derived.WalkKit
import Derived.ProofKit
import Derived.OpenShut
import Derived.ShutString
import Derived.ChangeOld
import Derived.Below
import Derived.BigQuiet
import Derived.Deep.QuietTactic
import Derived.Lib.Hide
import Derived.Deep.RegionHeld3
import Derived.Lib.SlBytesConst
import Derived.Laws.CopyOwn
import Derived.Laws.CopyRow
import Derived.Lib.Bytes
import Derived.Deep.LoopGhost
import Derived.Deep.DeepFit
import Derived.Deep.DeepMust
import Derived.WalkSpells
import Derived.WalkLawsBesides
import Derived.Laws.EntriesVeiled
import Derived.Laws.Rows
import Derived.Lib.Builder
import Derived.Lib.AppendStr
import Derived.Lib.UnsafeStr
import Derived.Laws.Externs
import Derived.Test.YtocbofeanfdggaaDoorS1
import Derived.Test.YtocbofeanfdggaaDoorS2
/- strings.Join of two and of three parts -/
namespace Go.Proofs.YtocbofeanfdggaaDoor
open Go.ChangeShapes Go.WideShapes Go.ChangeAt Go.RowKit
set_option linter.unusedVariables false
set_option linter.unusedSimpArgs false
theorem bld_of {p : Value} {b : Nat} {l : List UInt8} {w : World} (h : Lib.BuilderAt 57 5 b b p (Lib.byteCells l) w) : BldP p (b + 1) b l w := by
  obtain ⟨_, v, hh, ho, hne⟩ := h
  refine ⟨by omega, v, hh, ?_⟩
  rw [Lib.byteCells_length] at ho
  obtain ⟨hl, h2 | ⟨g, cap, cur, hv, hg, r⟩⟩ := ho
  · exact ⟨hl, Or.inl h2⟩
  · refine ⟨hl, Or.inr ⟨g, cap, cur, hv, ?_, r⟩⟩
    have : g ≠ b := by
      intro e
      subst e
      apply hne
      rw [hv]; rfl
    omega
theorem sizeByte : (Tryd.prog.info? 5).map (·.size) = some 1 := by kernel_rfl
set_option maxHeartbeats 2000000 in
set_option maxRecDepth 1000000 in
/-- (*strings.Builder).grow, of a builder without a buffer. -/
theorem grow_fresh (B b n : Nat) (w : World) (hB : B ≤ b) (hbk : w.heap[b]? = some (.cells #[.pointer (some ⟨b, 0, none⟩), .slice none 0 0] 57 (0, 0))) (hBw : B ≤ w.heap.size) (hn : n ≤ 281474976710656) :
    Calls Tryd.prog 74 #[.pointer (some ⟨b, 0, none⟩), .int .i64 n] w fun e w' => e = .returned (.tuple #[]) ∧ (Lib.BuilderAt 57 5 B b (.pointer (some ⟨b, 0, none⟩)) [] w' ∧ Below B w w') := by
  obtain ⟨cs, hrun, hle, hmax⟩ := Lib.run_makeNoZero (P := Tryd.prog) w.drew #[3] 55 5 Tryd.underlying55 n hn
  have hw : IntKind.i64.wrap (IntKind.i64.wrap 0 + (n : Int)) = n := by
    rw [IntKind.wrap_i64, IntKind.wrap_i64]
    omega
  have hcall : (callFunc 93 #[.int .i64 (IntKind.i64.wrap (IntKind.i64.wrap 0 + (n : Int)))]).run Tryd.prog w.drew = .ok (.value (.slice (some ⟨w.drew.heap.size, 0, none⟩) n cs.size)) (w.drew.drew.drew.alloc (.cells cs 5)) := by
    rw [hw, run_callFunc_extern Tryd.func93 (by kernel_rfl) (by kernel_rfl) (by kernel_rfl) (e := Extern.BytealgMakeNoZero.makeNoZero #[3] #[55]) (by kernel_rfl), hrun]
    rfl
  have c1 : w.drew.cell? ⟨b, 1, none⟩ = some (.slice none 0 0) := by
    have : w.drew.heap[b]? = _ := hbk
    rw [Lib.cell_of_heap this]; rfl
  have hlt : b < w.heap.size := lt_of hbk
  have c2 : (w.alloc (.cells cs 5)).cell? ⟨b, 1, none⟩ = some (.slice none 0 0) := by
    have : (w.alloc (.cells cs 5)).heap[b]? = _ := (Lib.alloc_old w _ b hlt).trans hbk
    rw [Lib.cell_of_heap this]; rfl
  have f2 : (w.alloc (.cells cs 5)).frozen? ⟨b, 1, none⟩ = false := Lib.frozen_of_heap ((Lib.alloc_old w _ b hlt).trans hbk) 1
  have hcopy : ∀ W : World, (Builtin.copy_ #[55, 55] 3 #[.slice (some ⟨w.heap.size, 0, none⟩) 0 cs.size, .slice none 0 0]).run Tryd.prog W = .ok (goInt 0) W :=
    fun W => run_copy_none W 55 55 3 5 _ _ 0 cs.size 0 0 Tryd.underlying55 sizeByte rfl
  clear hw
  go_enter Tryd.func74, Tryd.ntmps74
  go_wp2
  have hfin := Lib.grown_fresh (T := 57) (e := 5) (cs := cs) hB hbk hBw (hmax (by unfold maxLen; omega)) (by decide)
  rw [World.setCell_alloc_past (hn := hlt)] at hfin
  go_region
  all_goals (go_wp2; go_end0; exact ⟨rfl, hfin⟩)
set_option maxHeartbeats 2000000 in
set_option maxRecDepth 1000000 in
/-- (*strings.Builder).Grow, of a builder that has not been written. -/
theorem Grow_fresh (B b n : Nat) (w : World) (hB : B ≤ b) (hbk : w.heap[b]? = some (.cells #[.pointer none, .slice none 0 0] 57 (0, 0))) (hBw : B ≤ w.heap.size) (hn : n ≤ 281474976710656) :
    Calls Tryd.prog 54 #[.pointer (some ⟨b, 0, none⟩), .int .i64 n] w fun e w' => e = .returned (.tuple #[]) ∧ (Lib.BuilderAt 57 5 B b (.pointer (some ⟨b, 0, none⟩)) [] w' ∧ Below B w w') := by
  have hbk1 : (w.setCell ⟨b, 0, none⟩ (.pointer (some ⟨b, 0, none⟩))).heap[b]? = some (.cells #[.pointer (some ⟨b, 0, none⟩), .slice none 0 0] 57 (0, 0)) := by
    simp [World.setCell, Array.getElem?_modify, hbk]
  have c1 : (w.setCell ⟨b, 0, none⟩ (.pointer (some ⟨b, 0, none⟩))).cell? ⟨b, 1, none⟩ = some (.slice none 0 0) := by rw [Lib.cell_of_heap hbk1]; rfl
  have hb1 : Below B w (w.setCell ⟨b, 0, none⟩ (.pointer (some ⟨b, 0, none⟩))) := (Below.refl B w).setCell (p := ⟨b, 0, none⟩) hB _
  go_enter Tryd.func54, Tryd.ntmps54
  have hU : Lib.BuilderAt 57 5 B b (.pointer (some ⟨b, 0, none⟩)) [] (w.setCell ⟨b, 0, none⟩ (.pointer (some ⟨b, 0, none⟩))) := ⟨hB, .slice none 0 0, hbk1, World.ownsRow_nil _ _ _ _, by simp [Value.ownBlock]⟩
  have c1' : (w.setCell ⟨b, 0, none⟩ (.pointer (some ⟨b, 0, none⟩))).drew.cell? ⟨b, 1, none⟩ = some (.slice none 0 0) := c1
  go_wp2_with (go_at_call 38; refine (copyCheck_fresh b w (by rw [Lib.cell_of_heap hbk]; rfl) (by simp [World.shape?, hbk]) (Lib.frozen_of_heap hbk 0)).mono ?_; rintro e w' ⟨rfl, rfl⟩)
  go_region
  all_goals go_wp2_with (go_at_call 74; refine (grow_fresh B b n (w.setCell ⟨b, 0, none⟩ (.pointer (some ⟨b, 0, none⟩))).drew hB hbk1 (by simpa [World.setCell, World.drew, -World.drew_eq] using hBw) hn).mono ?_; rintro e w' ⟨rfl, h1, h2⟩)
  all_goals first
    | (go_end0; exact ⟨rfl, h1, hb1.drew.trans h2⟩)
    | (go_end0; exact ⟨rfl, hU.drew, hb1.drew⟩)
/-- (*strings.Builder).Grow, in this seat's words. -/
theorem grow_b (n : Nat) (w : World) (hn : n ≤ 1000000000) :
    Calls Tryd.prog 54 #[.pointer (some ⟨w.heap.size, 0, none⟩), .int .i64 n] (w.alloc (.cells #[.pointer none, .slice none 0 0] 57)) fun e w' => e = .returned (.tuple #[]) ∧ Bld (w.heap.size + 1) w.heap.size [] w' ∧ Below w.heap.size w w' := by
  refine (Grow_fresh w.heap.size w.heap.size n _ (Nat.le_refl _) (hp_new w _) (by simp) (by omega)).mono ?_
  rintro e w' ⟨he, h1, h2⟩
  exact ⟨he, Or.inr (bld_of (l := []) h1), ((Below.refl _ w).alloc (Nat.le_refl _) _).trans h2⟩
/-- Parts, with blanks between. -/
def joinB : List (List UInt8) → List UInt8
  | [] => []
  | [x] => x
  | x :: y :: t => x ++ 32 :: joinB (y :: t)
set_option maxRecDepth 100000 in
set_option maxHeartbeats 2000000 in
theorem join_1 (g c : Nat) (x : List UInt8) (w : World) (hc : w.cell? ⟨g, 0, none⟩ = some (.string ⟨x.toArray⟩)) :
    Calls Tryd.prog 39 #[.slice (some ⟨g, 0, none⟩) 1 c, .string ⟨#[32]⟩] w fun e w' => e = .returned (.string ⟨x.toArray⟩) ∧ w = w' := by
  go_enter Tryd.func39, Tryd.ntmps39
  go_wp2
  go_ret
  exact ⟨rfl, rfl⟩
set_option maxRecDepth 100000 in
set_option maxHeartbeats 4000000 in
theorem join_2 (g c : Nat) (x0 x1 : List UInt8) (w : World) (hgl : g < w.heap.size) (hcap : 2 ≤ c) (hc0 : w.cell? ⟨g, 0, none⟩ = some (.string ⟨x0.toArray⟩)) (hc1 : w.cell? ⟨g, 1, none⟩ = some (.string ⟨x1.toArray⟩)) (hl0 : x0.length ≤ 10000000) (hl1 : x1.length ≤ 10000000) :
    Calls Tryd.prog 39 #[.slice (some ⟨g, 0, none⟩) 2 c, .string ⟨#[32]⟩] w fun e w' => e = .returned (.string ⟨(joinB [x0, x1]).toArray⟩) ∧ Below w.heap.size w w' := by
  have HC : Hid (∀ w1, Below w.heap.size w w1 → w1.cell? ⟨g, 0, none⟩ = some (.string ⟨x0.toArray⟩) ∧ w1.cell? ⟨g, 1, none⟩ = some (.string ⟨x1.toArray⟩)) := Lib.hid fun w1 hb => ⟨(hb.cell (p := ⟨g, 0, none⟩) hgl).trans hc0, (hb.cell (p := ⟨g, 1, none⟩) hgl).trans hc1⟩
  have hz0 : (⟨x0.toArray⟩ : ByteArray).size = x0.length := by simp [ByteArray.size]
  have hz1 : (⟨x1.toArray⟩ : ByteArray).size = x1.length := by simp [ByteArray.size]
  have hz : (⟨#[32]⟩ : ByteArray).size = 1 := rfl
  clear hc0 hc1
  go_enter Tryd.func39, Tryd.ntmps39
  go_wp2_with fail
  all_goals (
    go_loop [5, 41] (fun n i => (i = .int .i64 0 ∧ n = .int .i64 (1 : Int)) ∨ (i = .int .i64 1 ∧ n = .int .i64 (1 + (x0.length : Int) : Int)) ∨ (i = .int .i64 2 ∧ n = .int .i64 (1 + (x0.length : Int) + (x1.length : Int) : Int))) (fun _ i => 2 - (intOf i).toNat)
    case atStart => exact Or.inl ⟨rfl, rfl⟩
    case round =>
      obtain ⟨hc0, hc1⟩ := HC.out w (Below.refl _ _)
      rcases hrel with ⟨rfl, rfl⟩ | ⟨rfl, rfl⟩ | ⟨rfl, rfl⟩
      · go_wp2
        exact ⟨Or.inr (Or.inl ⟨rfl, by go_num⟩), by simp [intOf]⟩
      · go_wp2
        exact ⟨Or.inr (Or.inr (⟨rfl, by go_num⟩)), by simp [intOf]⟩
      · have HC0 := Lib.hid (And.intro hc0 HC)
        clear hc0 hc1
        go_wp2_with fail
        rw [show (1 + (x0.length : Int) + (x1.length : Int) : Int) = ((1 + x0.length + x1.length : Nat) : Int) by push_cast; rfl]
        refine (grow_b (1 + x0.length + x1.length) w (by omega)).mono ?_
        rintro e w1 ⟨rfl, h1, hb1⟩
        have hs1 := h1.lt
        have hc0 := (HC.out w1 hb1).1
        have H1 := Lib.hid (And.intro h1 (And.intro hb1 hs1))
        clear h1 hb1 hs1
        go_wp2_with fail
        refine (writeString_b (w.heap.size + 1) w.heap.size [] x0 w1 H1.out.1 (by simp; omega) (by have := H1.out.2.2; omega)).mono ?_
        rintro e w2 ⟨rfl, h2, hb2⟩
        have H2 := Lib.hid (And.intro h2 (H1.out.2.1.trans (hb2.below (Nat.le_succ _) (Nat.le_refl _))))
        clear h2 hb2 hc0
        go_wp2_with fail
        go_loopw [65] (fun i wr => (i = .int .i64 0 ∧ Hid (Bld (w.heap.size + 1) w.heap.size (x0) wr) ∧ Hid (Below w.heap.size w wr)) ∨ (i = .int .i64 1 ∧ Hid (Bld (w.heap.size + 1) w.heap.size (joinB [x0, x1]) wr) ∧ Hid (Below w.heap.size w wr))) (fun i _ => 2 - (intOf i).toNat)
        case atStart => exact Or.inl ⟨rfl, Lib.hid (by simpa using H2.out.1), Lib.hid H2.out.2⟩
        case round =>
          rcases hrel with ⟨rfl, HB, HW⟩ | ⟨rfl, HB, HW⟩
          · have hcy := (HC.out wr HW.out).2
            go_wp2_with fail
            refine (writeString_b (w.heap.size + 1) w.heap.size _ [32] wr HB.out (by simp [joinB]; omega) (by have := HB.out.lt; omega)).mono ?_
            rintro e w3 ⟨rfl, h3, hb3⟩
            have hw3 := HW.out.trans (hb3.below (Nat.le_succ _) (Nat.le_refl _))
            have hcy := (HC.out w3 hw3).2
            have H3 := Lib.hid (And.intro h3 hw3)
            clear h3 hb3 hw3
            go_wp2_with fail
            refine (writeString_b (w.heap.size + 1) w.heap.size _ x1 w3 H3.out.1 (by simp [joinB]; omega) (by have := H3.out.1.lt; omega)).mono ?_
            rintro e w4 ⟨rfl, h4, hb4⟩
            have H4 := Lib.hid (And.intro h4 (H3.out.2.trans (hb4.below (Nat.le_succ _) (Nat.le_refl _))))
            clear h4 hb4
            go_wp2
            exact ⟨Or.inr (⟨rfl, Lib.hid (by simpa [joinB] using H4.out.1), Lib.hid H4.out.2⟩), by simp [intOf]⟩
          · go_wp2_with fail
            refine (string_b _ _ _ wr HB.out).mono ?_
            rintro e w5 ⟨rfl, hb5⟩
            have HB5 := Lib.hid (HW.out.trans hb5)
            clear hb5
            go_wp2
            go_ret
            exact ⟨rfl, HB5.out⟩)
set_option maxRecDepth 100000 in
set_option maxHeartbeats 4000000 in
theorem join_3 (g c : Nat) (x0 x1 x2 : List UInt8) (w : World) (hgl : g < w.heap.size) (hcap : 3 ≤ c) (hc0 : w.cell? ⟨g, 0, none⟩ = some (.string ⟨x0.toArray⟩)) (hc1 : w.cell? ⟨g, 1, none⟩ = some (.string ⟨x1.toArray⟩)) (hc2 : w.cell? ⟨g, 2, none⟩ = some (.string ⟨x2.toArray⟩)) (hl0 : x0.length ≤ 10000000) (hl1 : x1.length ≤ 10000000) (hl2 : x2.length ≤ 10000000) :
    Calls Tryd.prog 39 #[.slice (some ⟨g, 0, none⟩) 3 c, .string ⟨#[32]⟩] w fun e w' => e = .returned (.string ⟨(joinB [x0, x1, x2]).toArray⟩) ∧ Below w.heap.size w w' := by
  have HC : Hid (∀ w1, Below w.heap.size w w1 → w1.cell? ⟨g, 0, none⟩ = some (.string ⟨x0.toArray⟩) ∧ w1.cell? ⟨g, 1, none⟩ = some (.string ⟨x1.toArray⟩) ∧ w1.cell? ⟨g, 2, none⟩ = some (.string ⟨x2.toArray⟩)) := Lib.hid fun w1 hb => ⟨(hb.cell (p := ⟨g, 0, none⟩) hgl).trans hc0, (hb.cell (p := ⟨g, 1, none⟩) hgl).trans hc1, (hb.cell (p := ⟨g, 2, none⟩) hgl).trans hc2⟩
  have hz0 : (⟨x0.toArray⟩ : ByteArray).size = x0.length := by simp [ByteArray.size]
  have hz1 : (⟨x1.toArray⟩ : ByteArray).size = x1.length := by simp [ByteArray.size]
  have hz2 : (⟨x2.toArray⟩ : ByteArray).size = x2.length := by simp [ByteArray.size]
  have hz : (⟨#[32]⟩ : ByteArray).size = 1 := rfl
  clear hc0 hc1 hc2
  go_enter Tryd.func39, Tryd.ntmps39
  go_wp2_with fail
  all_goals (
    go_loop [5, 41] (fun n i => (i = .int .i64 0 ∧ n = .int .i64 (2 : Int)) ∨ (i = .int .i64 1 ∧ n = .int .i64 (2 + (x0.length : Int) : Int)) ∨ (i = .int .i64 2 ∧ n = .int .i64 (2 + (x0.length : Int) + (x1.length : Int) : Int)) ∨ (i = .int .i64 3 ∧ n = .int .i64 (2 + (x0.length : Int) + (x1.length : Int) + (x2.length : Int) : Int))) (fun _ i => 3 - (intOf i).toNat)
    case atStart => exact Or.inl ⟨rfl, rfl⟩
    case round =>
      obtain ⟨hc0, hc1, hc2⟩ := HC.out w (Below.refl _ _)
      rcases hrel with ⟨rfl, rfl⟩ | ⟨rfl, rfl⟩ | ⟨rfl, rfl⟩ | ⟨rfl, rfl⟩
      · go_wp2
        exact ⟨Or.inr (Or.inl ⟨rfl, by go_num⟩), by simp [intOf]⟩
      · go_wp2
        exact ⟨Or.inr (Or.inr (Or.inl ⟨rfl, by go_num⟩)), by simp [intOf]⟩
      · go_wp2
        exact ⟨Or.inr (Or.inr (Or.inr (⟨rfl, by go_num⟩))), by simp [intOf]⟩
      · have HC0 := Lib.hid (And.intro hc0 HC)
        clear hc0 hc1 hc2
        go_wp2_with fail
        rw [show (2 + (x0.length : Int) + (x1.length : Int) + (x2.length : Int) : Int) = ((2 + x0.length + x1.length + x2.length : Nat) : Int) by push_cast; rfl]
        refine (grow_b (2 + x0.length + x1.length + x2.length) w (by omega)).mono ?_
        rintro e w1 ⟨rfl, h1, hb1⟩
        have hs1 := h1.lt
        have hc0 := (HC.out w1 hb1).1
        have H1 := Lib.hid (And.intro h1 (And.intro hb1 hs1))
        clear h1 hb1 hs1
        go_wp2_with fail
        refine (writeString_b (w.heap.size + 1) w.heap.size [] x0 w1 H1.out.1 (by simp; omega) (by have := H1.out.2.2; omega)).mono ?_
        rintro e w2 ⟨rfl, h2, hb2⟩
        have H2 := Lib.hid (And.intro h2 (H1.out.2.1.trans (hb2.below (Nat.le_succ _) (Nat.le_refl _))))
        clear h2 hb2 hc0
        go_wp2_with fail
        go_loopw [65] (fun i wr => (i = .int .i64 0 ∧ Hid (Bld (w.heap.size + 1) w.heap.size (x0) wr) ∧ Hid (Below w.heap.size w wr)) ∨ (i = .int .i64 1 ∧ Hid (Bld (w.heap.size + 1) w.heap.size (joinB [x0, x1]) wr) ∧ Hid (Below w.heap.size w wr)) ∨ (i = .int .i64 2 ∧ Hid (Bld (w.heap.size + 1) w.heap.size (joinB [x0, x1, x2]) wr) ∧ Hid (Below w.heap.size w wr))) (fun i _ => 3 - (intOf i).toNat)
        case atStart => exact Or.inl ⟨rfl, Lib.hid (by simpa using H2.out.1), Lib.hid H2.out.2⟩
        case round =>
          rcases hrel with ⟨rfl, HB, HW⟩ | ⟨rfl, HB, HW⟩ | ⟨rfl, HB, HW⟩
          · have hcy := (HC.out wr HW.out).2.1
            go_wp2_with fail
            refine (writeString_b (w.heap.size + 1) w.heap.size _ [32] wr HB.out (by simp [joinB]; omega) (by have := HB.out.lt; omega)).mono ?_
            rintro e w3 ⟨rfl, h3, hb3⟩
            have hw3 := HW.out.trans (hb3.below (Nat.le_succ _) (Nat.le_refl _))
            have hcy := (HC.out w3 hw3).2.1
            have H3 := Lib.hid (And.intro h3 hw3)
            clear h3 hb3 hw3
            go_wp2_with fail
            refine (writeString_b (w.heap.size + 1) w.heap.size _ x1 w3 H3.out.1 (by simp [joinB]; omega) (by have := H3.out.1.lt; omega)).mono ?_
            rintro e w4 ⟨rfl, h4, hb4⟩
            have H4 := Lib.hid (And.intro h4 (H3.out.2.trans (hb4.below (Nat.le_succ _) (Nat.le_refl _))))
            clear h4 hb4
            go_wp2
            exact ⟨Or.inr (Or.inl ⟨rfl, Lib.hid (by simpa [joinB] using H4.out.1), Lib.hid H4.out.2⟩), by simp [intOf]⟩
          · have hcy := (HC.out wr HW.out).2.2
            go_wp2_with fail
            refine (writeString_b (w.heap.size + 1) w.heap.size _ [32] wr HB.out (by simp [joinB]; omega) (by have := HB.out.lt; omega)).mono ?_
            rintro e w3 ⟨rfl, h3, hb3⟩
            have hw3 := HW.out.trans (hb3.below (Nat.le_succ _) (Nat.le_refl _))
            have hcy := (HC.out w3 hw3).2.2
            have H3 := Lib.hid (And.intro h3 hw3)
            clear h3 hb3 hw3
            go_wp2_with fail
            refine (writeString_b (w.heap.size + 1) w.heap.size _ x2 w3 H3.out.1 (by simp [joinB]; omega) (by have := H3.out.1.lt; omega)).mono ?_
            rintro e w4 ⟨rfl, h4, hb4⟩
            have H4 := Lib.hid (And.intro h4 (H3.out.2.trans (hb4.below (Nat.le_succ _) (Nat.le_refl _))))
            clear h4 hb4
            go_wp2
            exact ⟨Or.inr (Or.inr (⟨rfl, Lib.hid (by simpa [joinB] using H4.out.1), Lib.hid H4.out.2⟩)), by simp [intOf]⟩
          · go_wp2_with fail
            refine (string_b _ _ _ wr HB.out).mono ?_
            rintro e w5 ⟨rfl, hb5⟩
            have HB5 := Lib.hid (HW.out.trans hb5)
            clear hb5
            go_wp2
            go_ret
            exact ⟨rfl, HB5.out⟩)
end Go.Proofs.YtocbofeanfdggaaDoor
