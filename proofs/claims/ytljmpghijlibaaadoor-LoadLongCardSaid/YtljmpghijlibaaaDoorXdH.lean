/- narthexref09.Read, a document's, outcome by outcome. -/
import Derived.Test.YtljmpghijlibaaaDoorRows
import Derived.WalkKit
import Derived.ProofKit
import Derived.OpenShut
import Derived.ShutString
import Derived.ChangeOld
import Derived.Below
import Derived.BigQuiet
import Derived.Deep.QuietTactic
import Derived.Lib.Hide
import Derived.Deep.RegionHeld3
import Derived.Lib.SlBytesConst
import Derived.Laws.CopyOwn
import Derived.Laws.CopyRow
import Derived.Lib.Bytes
import Derived.Deep.LoopGhost
import Derived.Deep.DeepFit
import Derived.Deep.DeepMust
import Derived.WalkSpells
import Derived.WalkLawsBesides
import Derived.Laws.EntriesVeiled
import Derived.Laws.Rows
import Derived.Laws.Tables
import Derived.Outline
import Derived.LoopN
import Derived.Test.YtljmpghijlibaaaDoorBase
import Derived.Test.YtljmpghijlibaaaDoorShelf
import Derived.Test.YtljmpghijlibaaaDoorCharPlain
import Derived.Test.YtljmpghijlibaaaDoorCref1
import Derived.Test.YtljmpghijlibaaaDoorY2
import Derived.Test.YtljmpghijlibaaaDoorStr
import Derived.Test.YtljmpghijlibaaaDoorY3
import Derived.Test.YtljmpghijlibaaaDoorPub
import Derived.Test.YtljmpghijlibaaaDoorBlank
import Derived.Test.YtljmpghijlibaaaDoorLibB
import Derived.Test.YtljmpghijlibaaaDoorMiscP
import Derived.Test.YtljmpghijlibaaaDoorMisc1
import Derived.Test.YtljmpghijlibaaaDoorX1
import Derived.Test.YtljmpghijlibaaaDoorBits
namespace Go.Proofs.YtljmpghijlibaaaDoor
open Go.ChangeShapes Go.WideShapes Go.ChangeAt Go.RowKit
set_option linter.unusedVariables false
theorem hasX_le (l : List UInt8) (k n : Nat) (hl : l.length = n) (hx : hasX l k = true) : k + 5 ≤ n := by
  unfold hasX at hx
  simp only [Bool.and_eq_true] at hx
  have := pre_len hx.1
  simp at this
  omega
theorem dj_start (w : World) : DJ w ((w.alloc (.cells #[.bool false, .string ⟨#[]⟩, .string ⟨#[]⟩, .string ⟨#[]⟩] 67)).alloc (.cells #[.bool true, .string ⟨#[]⟩, .string ⟨#[]⟩, .string ⟨#[]⟩] 67)) #[.bool false, .string ⟨#[]⟩, .string ⟨#[]⟩, .string ⟨#[]⟩] #[.bool true, .string ⟨#[]⟩, .string ⟨#[]⟩, .string ⟨#[]⟩] :=
  ⟨((Below.refl w.heap.size w).alloc (Nat.le_refl _) _).alloc (by simp) _, by simp, hp_old (hp_new _ _), by have := hp_new (w.alloc (.cells #[.bool false, .string ⟨#[]⟩, .string ⟨#[]⟩, .string ⟨#[]⟩] 67)) (.cells #[.bool true, .string ⟨#[]⟩, .string ⟨#[]⟩, .string ⟨#[]⟩] 67); rwa [World.size_alloc] at this⟩
set_option maxRecDepth 100000 in
set_option maxHeartbeats 8000000 in
theorem refRead_f_none (A : Option Addr) (n cap : Nat) (l : List UInt8) (k : Nat) (w : World) (h : Byt w w.heap.size A n cap l) (hm : n ≤ 40000) (hk : k ≤ n) (hx : hasX l k = true) (ho0 : partOut verW verB l (k + 5) = none) :
    Calls Tryd.prog 45 #[.slice A n cap, .int .i64 k, .bool false] w fun e w' => e = .returned (declV (noDecl, 0, 7)) ∧ Below w.heap.size w w' := by
  have hb := Below.alloc (Below.refl w.heap.size w) (Nat.le_refl _) (.cells #[.bool false, .string ⟨#[]⟩, .string ⟨#[]⟩, .string ⟨#[]⟩] 67)
  have hln := h.length
  have hkl := hasX_le l k n hln hx
  have hJ := dj_start w
  have hi : (Tryd.prog.info? 67).map (·.size) = some 4 := by kernel_rfl
  obtain ⟨d, hu⟩ := isStruct_of (P := Tryd.prog) (t := 67) (by kernel_rfl)
  have HU := Lib.hid (And.intro hi hu)
  have C1 := Lib.hid (refHas_in A n cap l k _ _ (h.below hb) (by omega) hk)
  rw [hx] at C1
  have P0 : Hid (∀ W, Below w.heap.size w W → Calls Tryd.prog 73 #[.slice A n cap, .int .i64 ((k + 5) : Nat), .int .i64 0] W fun e w' => e = .returned (partV (none)) ∧ Below W.heap.size W w') := Lib.hid fun W hb => by
    have := refPart0_c A n cap l (k + 5) W ((h.below hb).more hb.size) hm (by omega)
    rwa [show partOut [118, 101, 114, 115, 105, 111, 110] verB l (k + 5) = none from ho0] at this
  rw [show ((k + 5 : Nat) : Int) = (k : Int) + 5 by omega] at P0
  unfold partV at P0
  have HJ := Lib.hid hJ
  have hk' : ¬ (n : Int) < (k : Int) := by omega
  have hk0 : (0 : Int) ≤ (k : Int) := by omega
  have hk1 : (k : Int) ≤ 40000 := by omega
  clear hi hu h hx hb hJ hln hkl ho0 
  go_enter Tryd.func45, Tryd.ntmps45
  go_wp2_with fail
  refine (C1.out).mono ?_
  rintro e wq ⟨rfl, rfl⟩
  go_wp2
  refine wp_loop_rounds 4 ?_
  rw [rounds_succ]
  go_wp2_with fail
  refine (P0.out _ HJ.out.1).mono ?_
  rintro e w1 ⟨rfl, hb1⟩
  have J0a := Lib.hid (HJ.out.kept hb1)
  clear hb1
  have JF := Lib.hid (J0a.out.row #[.bool false, .string ⟨#[]⟩, .string ⟨#[]⟩, .string ⟨#[]⟩])
  go_wp2_with (refine wpList_store_row rfl _ _ _ rfl w.heap.size #[.bool false, .string ⟨#[]⟩, .string ⟨#[]⟩, .string ⟨#[]⟩] rfl rfl _ _ J0a.out.2.2.1 (by kernel_rfl) rfl (by kernel_rfl) ?_)
  (try simp only [Exit.inBlock, Exit.then])
  exact bodyPost_ret (results_cell3 rfl _ _ w.heap.size _ _ _ _ rfl JF.out.2.2.1 HU.out.2 rfl HU.out.1) rfl ⟨rfl, JF.out.1⟩
set_option maxRecDepth 100000 in
set_option maxHeartbeats 8000000 in
theorem refRead_f_same (A : Option Addr) (n cap : Nat) (l : List UInt8) (k : Nat) (w : World) (h : Byt w w.heap.size A n cap l) (hm : n ≤ 40000) (hk : k ≤ n) (hx : hasX l k = true) (ho0 : partOut verW verB l (k + 5) = some ([], (k + 5))) :
    Calls Tryd.prog 45 #[.slice A n cap, .int .i64 k, .bool false] w fun e w' => e = .returned (declV (noDecl, 0, 7)) ∧ Below w.heap.size w w' := by
  have hb := Below.alloc (Below.refl w.heap.size w) (Nat.le_refl _) (.cells #[.bool false, .string ⟨#[]⟩, .string ⟨#[]⟩, .string ⟨#[]⟩] 67)
  have hln := h.length
  have hkl := hasX_le l k n hln hx
  have hJ := dj_start w
  have hi : (Tryd.prog.info? 67).map (·.size) = some 4 := by kernel_rfl
  obtain ⟨d, hu⟩ := isStruct_of (P := Tryd.prog) (t := 67) (by kernel_rfl)
  have HU := Lib.hid (And.intro hi hu)
  have C1 := Lib.hid (refHas_in A n cap l k _ _ (h.below hb) (by omega) hk)
  rw [hx] at C1
  have P0 : Hid (∀ W, Below w.heap.size w W → Calls Tryd.prog 73 #[.slice A n cap, .int .i64 ((k + 5) : Nat), .int .i64 0] W fun e w' => e = .returned (partV (some ([], (k + 5)))) ∧ Below W.heap.size W w') := Lib.hid fun W hb => by
    have := refPart0_c A n cap l (k + 5) W ((h.below hb).more hb.size) hm (by omega)
    rwa [show partOut [118, 101, 114, 115, 105, 111, 110] verB l (k + 5) = some ([], (k + 5)) from ho0] at this
  rw [show ((k + 5 : Nat) : Int) = (k : Int) + 5 by omega] at P0
  unfold partV at P0
  have HJ := Lib.hid hJ
  have hk' : ¬ (n : Int) < (k : Int) := by omega
  have hk0 : (0 : Int) ≤ (k : Int) := by omega
  have hk1 : (k : Int) ≤ 40000 := by omega
  clear hi hu h hx hb hJ hln hkl ho0 
  go_enter Tryd.func45, Tryd.ntmps45
  go_wp2_with fail
  refine (C1.out).mono ?_
  rintro e wq ⟨rfl, rfl⟩
  go_wp2
  refine wp_loop_rounds 4 ?_
  rw [rounds_succ]
  go_wp2_with fail
  refine (P0.out _ HJ.out.1).mono ?_
  rintro e w1 ⟨rfl, hb1⟩
  have J0a := Lib.hid (HJ.out.kept hb1)
  clear hb1
  have JF := Lib.hid (J0a.out.row #[.bool false, .string ⟨#[]⟩, .string ⟨#[]⟩, .string ⟨#[]⟩])
  go_wp2_with (refine wpList_store_row rfl _ _ _ rfl w.heap.size #[.bool false, .string ⟨#[]⟩, .string ⟨#[]⟩, .string ⟨#[]⟩] rfl rfl _ _ J0a.out.2.2.1 (by kernel_rfl) rfl (by kernel_rfl) ?_)
  (try simp only [Exit.inBlock, Exit.then])
  exact bodyPost_ret (results_cell3 rfl _ _ w.heap.size _ _ _ _ rfl JF.out.2.2.1 HU.out.2 rfl HU.out.1) rfl ⟨rfl, JF.out.1⟩
set_option maxRecDepth 100000 in
set_option maxHeartbeats 8000000 in
theorem refRead_f_found_none (A : Option Addr) (n cap : Nat) (l : List UInt8) (k : Nat) (w : World) (h : Byt w w.heap.size A n cap l) (hm : n ≤ 40000) (hk : k ≤ n) (hx : hasX l k = true) (s0 : List UInt8) (j0 : Nat) (ho0 : partOut verW verB l (k + 5) = some (s0, j0)) (hlt0 : (k + 5) < j0) (hle0 : j0 ≤ n) (ho1 : partOut encW encB l j0 = none) :
    Calls Tryd.prog 45 #[.slice A n cap, .int .i64 k, .bool false] w fun e w' => e = .returned (declV (noDecl, 0, 7)) ∧ Below w.heap.size w w' := by
  have hb := Below.alloc (Below.refl w.heap.size w) (Nat.le_refl _) (.cells #[.bool false, .string ⟨#[]⟩, .string ⟨#[]⟩, .string ⟨#[]⟩] 67)
  have hln := h.length
  have hkl := hasX_le l k n hln hx
  have hJ := dj_start w
  have hi : (Tryd.prog.info? 67).map (·.size) = some 4 := by kernel_rfl
  obtain ⟨d, hu⟩ := isStruct_of (P := Tryd.prog) (t := 67) (by kernel_rfl)
  have HU := Lib.hid (And.intro hi hu)
  have C1 := Lib.hid (refHas_in A n cap l k _ _ (h.below hb) (by omega) hk)
  rw [hx] at C1
  have P0 : Hid (∀ W, Below w.heap.size w W → Calls Tryd.prog 73 #[.slice A n cap, .int .i64 ((k + 5) : Nat), .int .i64 0] W fun e w' => e = .returned (partV (some (s0, j0))) ∧ Below W.heap.size W w') := Lib.hid fun W hb => by
    have := refPart0_c A n cap l (k + 5) W ((h.below hb).more hb.size) hm (by omega)
    rwa [show partOut [118, 101, 114, 115, 105, 111, 110] verB l (k + 5) = some (s0, j0) from ho0] at this
  rw [show ((k + 5 : Nat) : Int) = (k : Int) + 5 by omega] at P0
  have P1 : Hid (∀ W, Below w.heap.size w W → Calls Tryd.prog 73 #[.slice A n cap, .int .i64 (j0 : Nat), .int .i64 1] W fun e w' => e = .returned (partV (none)) ∧ Below W.heap.size W w') := Lib.hid fun W hb => by
    have := refPart1_c A n cap l j0 W ((h.below hb).more hb.size) hm (by omega)
    rwa [show partOut [101, 110, 99, 111, 100, 105, 110, 103] encB l j0 = none from ho1] at this
  unfold partV at P0 P1
  have HJ := Lib.hid hJ
  have hk' : ¬ (n : Int) < (k : Int) := by omega
  have hk0 : (0 : Int) ≤ (k : Int) := by omega
  have hk1 : (k : Int) ≤ 40000 := by omega
  have e0 : ((j0 : Int) == (k : Int) + 5) = false := by simp; omega
  have g0 : ¬ (j0 : Int) < 0 := by omega
  clear hi hu h hx hb hJ hln hkl ho0 ho1 hlt0 hle0
  go_enter Tryd.func45, Tryd.ntmps45
  go_wp2_with fail
  refine (C1.out).mono ?_
  rintro e wq ⟨rfl, rfl⟩
  go_wp2
  refine wp_loop_rounds 4 ?_
  rw [rounds_succ]
  go_wp2_with fail
  refine (P0.out _ HJ.out.1).mono ?_
  rintro e w1 ⟨rfl, hb1⟩
  have J0a := Lib.hid (HJ.out.kept hb1)
  clear hb1
  have z0 := cell_of 1 J0a.out.2.2.2
  have y0 := free_of 1 J0a.out.2.2.2
  have J0b : Hid (DJ w (w1.setCell ⟨w.heap.size + 1, 1, none⟩ (.string ⟨s0.toArray⟩)) #[.bool false, .string ⟨#[]⟩, .string ⟨#[]⟩, .string ⟨#[]⟩] #[.bool true, .string ⟨s0.toArray⟩, .string ⟨#[]⟩, .string ⟨#[]⟩]) := Lib.hid (J0a.out.set 1 (.string ⟨s0.toArray⟩))
  go_wp2
  clear z0 y0
  generalize w1.setCell ⟨w.heap.size + 1, 1, none⟩ (.string ⟨s0.toArray⟩) = v1 at *
  rw [rounds_succ]
  go_wp2_with fail
  refine (P1.out _ J0b.out.1).mono ?_
  rintro e w2 ⟨rfl, hb2⟩
  have J1a := Lib.hid (J0b.out.kept hb2)
  clear hb2
  have JF := Lib.hid (J1a.out.row #[.bool false, .string ⟨#[]⟩, .string ⟨#[]⟩, .string ⟨#[]⟩])
  go_wp2_with (refine wpList_store_row rfl _ _ _ rfl w.heap.size #[.bool false, .string ⟨#[]⟩, .string ⟨#[]⟩, .string ⟨#[]⟩] rfl rfl _ _ J1a.out.2.2.1 (by kernel_rfl) rfl (by kernel_rfl) ?_)
  (try simp only [Exit.inBlock, Exit.then])
  exact bodyPost_ret (results_cell3 rfl _ _ w.heap.size _ _ _ _ rfl JF.out.2.2.1 HU.out.2 rfl HU.out.1) rfl ⟨rfl, JF.out.1⟩
set_option maxRecDepth 100000 in
set_option maxHeartbeats 8000000 in
theorem refRead_f_found_same_none (A : Option Addr) (n cap : Nat) (l : List UInt8) (k : Nat) (w : World) (h : Byt w w.heap.size A n cap l) (hm : n ≤ 40000) (hk : k ≤ n) (hx : hasX l k = true) (s0 : List UInt8) (j0 : Nat) (ho0 : partOut verW verB l (k + 5) = some (s0, j0)) (hlt0 : (k + 5) < j0) (hle0 : j0 ≤ n) (ho1 : partOut encW encB l j0 = some ([], j0)) (ho2 : partOut aloneW aloneB l j0 = none) :
    Calls Tryd.prog 45 #[.slice A n cap, .int .i64 k, .bool false] w fun e w' => e = .returned (declV (noDecl, 0, 7)) ∧ Below w.heap.size w w' := by
  have hb := Below.alloc (Below.refl w.heap.size w) (Nat.le_refl _) (.cells #[.bool false, .string ⟨#[]⟩, .string ⟨#[]⟩, .string ⟨#[]⟩] 67)
  have hln := h.length
  have hkl := hasX_le l k n hln hx
  have hJ := dj_start w
  have hi : (Tryd.prog.info? 67).map (·.size) = some 4 := by kernel_rfl
  obtain ⟨d, hu⟩ := isStruct_of (P := Tryd.prog) (t := 67) (by kernel_rfl)
  have HU := Lib.hid (And.intro hi hu)
  have C1 := Lib.hid (refHas_in A n cap l k _ _ (h.below hb) (by omega) hk)
  rw [hx] at C1
  have P0 : Hid (∀ W, Below w.heap.size w W → Calls Tryd.prog 73 #[.slice A n cap, .int .i64 ((k + 5) : Nat), .int .i64 0] W fun e w' => e = .returned (partV (some (s0, j0))) ∧ Below W.heap.size W w') := Lib.hid fun W hb => by
    have := refPart0_c A n cap l (k + 5) W ((h.below hb).more hb.size) hm (by omega)
    rwa [show partOut [118, 101, 114, 115, 105, 111, 110] verB l (k + 5) = some (s0, j0) from ho0] at this
  rw [show ((k + 5 : Nat) : Int) = (k : Int) + 5 by omega] at P0
  have P1 : Hid (∀ W, Below w.heap.size w W → Calls Tryd.prog 73 #[.slice A n cap, .int .i64 (j0 : Nat), .int .i64 1] W fun e w' => e = .returned (partV (some ([], j0))) ∧ Below W.heap.size W w') := Lib.hid fun W hb => by
    have := refPart1_c A n cap l j0 W ((h.below hb).more hb.size) hm (by omega)
    rwa [show partOut [101, 110, 99, 111, 100, 105, 110, 103] encB l j0 = some ([], j0) from ho1] at this
  have P2 : Hid (∀ W, Below w.heap.size w W → Calls Tryd.prog 73 #[.slice A n cap, .int .i64 (j0 : Nat), .int .i64 2] W fun e w' => e = .returned (partV (none)) ∧ Below W.heap.size W w') := Lib.hid fun W hb => by
    have := refPart2_c A n cap l j0 W ((h.below hb).more hb.size) hm (by omega)
    rwa [show partOut [115, 116, 97, 110, 100, 97, 108, 111, 110, 101] aloneB l j0 = none from ho2] at this
  unfold partV at P0 P1 P2
  have HJ := Lib.hid hJ
  have hk' : ¬ (n : Int) < (k : Int) := by omega
  have hk0 : (0 : Int) ≤ (k : Int) := by omega
  have hk1 : (k : Int) ≤ 40000 := by omega
  have e0 : ((j0 : Int) == (k : Int) + 5) = false := by simp; omega
  have g0 : ¬ (j0 : Int) < 0 := by omega
  clear hi hu h hx hb hJ hln hkl ho0 ho1 ho2 hlt0 hle0
  go_enter Tryd.func45, Tryd.ntmps45
  go_wp2_with fail
  refine (C1.out).mono ?_
  rintro e wq ⟨rfl, rfl⟩
  go_wp2
  refine wp_loop_rounds 4 ?_
  rw [rounds_succ]
  go_wp2_with fail
  refine (P0.out _ HJ.out.1).mono ?_
  rintro e w1 ⟨rfl, hb1⟩
  have J0a := Lib.hid (HJ.out.kept hb1)
  clear hb1
  have z0 := cell_of 1 J0a.out.2.2.2
  have y0 := free_of 1 J0a.out.2.2.2
  have J0b : Hid (DJ w (w1.setCell ⟨w.heap.size + 1, 1, none⟩ (.string ⟨s0.toArray⟩)) #[.bool false, .string ⟨#[]⟩, .string ⟨#[]⟩, .string ⟨#[]⟩] #[.bool true, .string ⟨s0.toArray⟩, .string ⟨#[]⟩, .string ⟨#[]⟩]) := Lib.hid (J0a.out.set 1 (.string ⟨s0.toArray⟩))
  go_wp2
  clear z0 y0
  generalize w1.setCell ⟨w.heap.size + 1, 1, none⟩ (.string ⟨s0.toArray⟩) = v1 at *
  rw [rounds_succ]
  go_wp2_with fail
  refine (P1.out _ J0b.out.1).mono ?_
  rintro e w2 ⟨rfl, hb2⟩
  have J1a := Lib.hid (J0b.out.kept hb2)
  clear hb2
  have z1 := cell_of 2 J1a.out.2.2.2
  have y1 := free_of 2 J1a.out.2.2.2
  have J1b : Hid (DJ w (w2.setCell ⟨w.heap.size + 1, 2, none⟩ (.string ⟨#[]⟩)) #[.bool false, .string ⟨#[]⟩, .string ⟨#[]⟩, .string ⟨#[]⟩] #[.bool true, .string ⟨s0.toArray⟩, .string ⟨#[]⟩, .string ⟨#[]⟩]) := Lib.hid (J1a.out.set 2 (.string ⟨#[]⟩))
  go_wp2
  clear z1 y1
  generalize w2.setCell ⟨w.heap.size + 1, 2, none⟩ (.string ⟨#[]⟩) = v2 at *
  rw [rounds_succ]
  go_wp2_with fail
  refine (P2.out _ J1b.out.1).mono ?_
  rintro e w3 ⟨rfl, hb3⟩
  have J2a := Lib.hid (J1b.out.kept hb3)
  clear hb3
  have JF := Lib.hid (J2a.out.row #[.bool false, .string ⟨#[]⟩, .string ⟨#[]⟩, .string ⟨#[]⟩])
  go_wp2_with (refine wpList_store_row rfl _ _ _ rfl w.heap.size #[.bool false, .string ⟨#[]⟩, .string ⟨#[]⟩, .string ⟨#[]⟩] rfl rfl _ _ J2a.out.2.2.1 (by kernel_rfl) rfl (by kernel_rfl) ?_)
  (try simp only [Exit.inBlock, Exit.then])
  exact bodyPost_ret (results_cell3 rfl _ _ w.heap.size _ _ _ _ rfl JF.out.2.2.1 HU.out.2 rfl HU.out.1) rfl ⟨rfl, JF.out.1⟩
set_option maxRecDepth 100000 in
set_option maxHeartbeats 8000000 in
theorem refRead_f_found_same_same_yes (A : Option Addr) (n cap : Nat) (l : List UInt8) (k : Nat) (w : World) (h : Byt w w.heap.size A n cap l) (hm : n ≤ 40000) (hk : k ≤ n) (hx : hasX l k = true) (s0 : List UInt8) (j0 : Nat) (ho0 : partOut verW verB l (k + 5) = some (s0, j0)) (hlt0 : (k + 5) < j0) (hle0 : j0 ≤ n) (ho1 : partOut encW encB l j0 = some ([], j0)) (ho2 : partOut aloneW aloneB l j0 = some ([], j0)) (ht : [63, 62].isPrefixOf (l.drop (blankTo l j0)) = true) :
    Calls Tryd.prog 45 #[.slice A n cap, .int .i64 k, .bool false] w fun e w' => e = .returned (declV (⟨true, s0, [], []⟩, blankTo l j0 + 2, 0)) ∧ Below w.heap.size w w' := by
  have hb := Below.alloc (Below.refl w.heap.size w) (Nat.le_refl _) (.cells #[.bool false, .string ⟨#[]⟩, .string ⟨#[]⟩, .string ⟨#[]⟩] 67)
  have hln := h.length
  have hkl := hasX_le l k n hln hx
  have hJ := dj_start w
  have hi : (Tryd.prog.info? 67).map (·.size) = some 4 := by kernel_rfl
  obtain ⟨d, hu⟩ := isStruct_of (P := Tryd.prog) (t := 67) (by kernel_rfl)
  have HU := Lib.hid (And.intro hi hu)
  have C1 := Lib.hid (refHas_in A n cap l k _ _ (h.below hb) (by omega) hk)
  rw [hx] at C1
  have P0 : Hid (∀ W, Below w.heap.size w W → Calls Tryd.prog 73 #[.slice A n cap, .int .i64 ((k + 5) : Nat), .int .i64 0] W fun e w' => e = .returned (partV (some (s0, j0))) ∧ Below W.heap.size W w') := Lib.hid fun W hb => by
    have := refPart0_c A n cap l (k + 5) W ((h.below hb).more hb.size) hm (by omega)
    rwa [show partOut [118, 101, 114, 115, 105, 111, 110] verB l (k + 5) = some (s0, j0) from ho0] at this
  rw [show ((k + 5 : Nat) : Int) = (k : Int) + 5 by omega] at P0
  have P1 : Hid (∀ W, Below w.heap.size w W → Calls Tryd.prog 73 #[.slice A n cap, .int .i64 (j0 : Nat), .int .i64 1] W fun e w' => e = .returned (partV (some ([], j0))) ∧ Below W.heap.size W w') := Lib.hid fun W hb => by
    have := refPart1_c A n cap l j0 W ((h.below hb).more hb.size) hm (by omega)
    rwa [show partOut [101, 110, 99, 111, 100, 105, 110, 103] encB l j0 = some ([], j0) from ho1] at this
  have P2 : Hid (∀ W, Below w.heap.size w W → Calls Tryd.prog 73 #[.slice A n cap, .int .i64 (j0 : Nat), .int .i64 2] W fun e w' => e = .returned (partV (some ([], j0))) ∧ Below W.heap.size W w') := Lib.hid fun W hb => by
    have := refPart2_c A n cap l j0 W ((h.below hb).more hb.size) hm (by omega)
    rwa [show partOut [115, 116, 97, 110, 100, 97, 108, 111, 110, 101] aloneB l j0 = some ([], j0) from ho2] at this
  have CB : Hid (∀ W, Below w.heap.size w W → Calls Tryd.prog 74 #[.slice A n cap, .int .i64 (j0 : Nat)] W fun e w' => e = .returned (.int .i64 (blankTo l j0)) ∧ W = w') := Lib.hid fun W hb => refBlanks_c A n cap l j0 _ W (h.below hb) (by omega) (by omega)
  have hbl := blankTo_le l j0 (by omega)
  have CA : Hid (∀ W, Below w.heap.size w W → Calls Tryd.prog 75 #[.slice A n cap, .int .i64 (blankTo l j0 : Int), .string ⟨#[63, 62]⟩] W fun e w' => e = .returned (.bool true) ∧ W = w') := Lib.hid fun W hb => by
    have := refAt8_c A n cap l (blankTo l j0) [63, 62] _ W (h.below hb) (by simp) (by omega) (by simp) (by omega)
    rwa [ht] at this
  have hbi : (blankTo l j0 : Int) ≤ 40000 := by omega
  generalize blankTo l j0 = bt at *
  unfold partV at P0 P1 P2
  have HJ := Lib.hid hJ
  have hk' : ¬ (n : Int) < (k : Int) := by omega
  have hk0 : (0 : Int) ≤ (k : Int) := by omega
  have hk1 : (k : Int) ≤ 40000 := by omega
  have e0 : ((j0 : Int) == (k : Int) + 5) = false := by simp; omega
  have g0 : ¬ (j0 : Int) < 0 := by omega
  clear hi hu h hx hb hJ hln hkl ho0 ho1 ho2 hlt0 hle0 ht hbl
  go_enter Tryd.func45, Tryd.ntmps45
  go_wp2_with fail
  refine (C1.out).mono ?_
  rintro e wq ⟨rfl, rfl⟩
  go_wp2
  refine wp_loop_rounds 4 ?_
  rw [rounds_succ]
  go_wp2_with fail
  refine (P0.out _ HJ.out.1).mono ?_
  rintro e w1 ⟨rfl, hb1⟩
  have J0a := Lib.hid (HJ.out.kept hb1)
  clear hb1
  have z0 := cell_of 1 J0a.out.2.2.2
  have y0 := free_of 1 J0a.out.2.2.2
  have J0b : Hid (DJ w (w1.setCell ⟨w.heap.size + 1, 1, none⟩ (.string ⟨s0.toArray⟩)) #[.bool false, .string ⟨#[]⟩, .string ⟨#[]⟩, .string ⟨#[]⟩] #[.bool true, .string ⟨s0.toArray⟩, .string ⟨#[]⟩, .string ⟨#[]⟩]) := Lib.hid (J0a.out.set 1 (.string ⟨s0.toArray⟩))
  go_wp2
  clear z0 y0
  generalize w1.setCell ⟨w.heap.size + 1, 1, none⟩ (.string ⟨s0.toArray⟩) = v1 at *
  rw [rounds_succ]
  go_wp2_with fail
  refine (P1.out _ J0b.out.1).mono ?_
  rintro e w2 ⟨rfl, hb2⟩
  have J1a := Lib.hid (J0b.out.kept hb2)
  clear hb2
  have z1 := cell_of 2 J1a.out.2.2.2
  have y1 := free_of 2 J1a.out.2.2.2
  have J1b : Hid (DJ w (w2.setCell ⟨w.heap.size + 1, 2, none⟩ (.string ⟨#[]⟩)) #[.bool false, .string ⟨#[]⟩, .string ⟨#[]⟩, .string ⟨#[]⟩] #[.bool true, .string ⟨s0.toArray⟩, .string ⟨#[]⟩, .string ⟨#[]⟩]) := Lib.hid (J1a.out.set 2 (.string ⟨#[]⟩))
  go_wp2
  clear z1 y1
  generalize w2.setCell ⟨w.heap.size + 1, 2, none⟩ (.string ⟨#[]⟩) = v2 at *
  rw [rounds_succ]
  go_wp2_with fail
  refine (P2.out _ J1b.out.1).mono ?_
  rintro e w3 ⟨rfl, hb3⟩
  have J2a := Lib.hid (J1b.out.kept hb3)
  clear hb3
  have z2 := cell_of 3 J2a.out.2.2.2
  have y2 := free_of 3 J2a.out.2.2.2
  have J2b : Hid (DJ w (w3.setCell ⟨w.heap.size + 1, 3, none⟩ (.string ⟨#[]⟩)) #[.bool false, .string ⟨#[]⟩, .string ⟨#[]⟩, .string ⟨#[]⟩] #[.bool true, .string ⟨s0.toArray⟩, .string ⟨#[]⟩, .string ⟨#[]⟩]) := Lib.hid (J2a.out.set 3 (.string ⟨#[]⟩))
  go_wp2
  clear z2 y2
  generalize w3.setCell ⟨w.heap.size + 1, 3, none⟩ (.string ⟨#[]⟩) = v3 at *
  rw [rounds_succ]
  go_wp2_with fail
  refine (CB.out _ J2b.out.1).mono ?_
  rintro e wq ⟨rfl, rfl⟩
  go_wp2_with fail
  refine (CA.out _ J2b.out.1).mono ?_
  rintro e wq ⟨rfl, rfl⟩
  have JF := Lib.hid (J2b.out.row #[.bool true, .string ⟨s0.toArray⟩, .string ⟨#[]⟩, .string ⟨#[]⟩])
  go_wp2_with (first | (refine wpList_load_row rfl _ _ rfl (w.heap.size + 1) rfl _ _ _ _ J2b.out.2.2.2 HU.out.2 rfl HU.out.1 ?_) | (refine wpList_store_row rfl _ _ _ rfl w.heap.size #[.bool true, .string ⟨s0.toArray⟩, .string ⟨#[]⟩, .string ⟨#[]⟩] rfl rfl _ _ J2b.out.2.2.1 (by kernel_rfl) rfl (by kernel_rfl) ?_))
  (try simp only [Exit.inBlock, Exit.then])
  exact bodyPost_ret (results_cell3 rfl _ _ w.heap.size _ _ _ _ rfl JF.out.2.2.1 HU.out.2 rfl HU.out.1) rfl ⟨rfl, JF.out.1⟩
set_option maxRecDepth 100000 in
set_option maxHeartbeats 8000000 in
theorem refRead_f_found_same_same_no (A : Option Addr) (n cap : Nat) (l : List UInt8) (k : Nat) (w : World) (h : Byt w w.heap.size A n cap l) (hm : n ≤ 40000) (hk : k ≤ n) (hx : hasX l k = true) (s0 : List UInt8) (j0 : Nat) (ho0 : partOut verW verB l (k + 5) = some (s0, j0)) (hlt0 : (k + 5) < j0) (hle0 : j0 ≤ n) (ho1 : partOut encW encB l j0 = some ([], j0)) (ho2 : partOut aloneW aloneB l j0 = some ([], j0)) (ht : [63, 62].isPrefixOf (l.drop (blankTo l j0)) = false) :
    Calls Tryd.prog 45 #[.slice A n cap, .int .i64 k, .bool false] w fun e w' => e = .returned (declV (noDecl, 0, 7)) ∧ Below w.heap.size w w' := by
  have hb := Below.alloc (Below.refl w.heap.size w) (Nat.le_refl _) (.cells #[.bool false, .string ⟨#[]⟩, .string ⟨#[]⟩, .string ⟨#[]⟩] 67)
  have hln := h.length
  have hkl := hasX_le l k n hln hx
  have hJ := dj_start w
  have hi : (Tryd.prog.info? 67).map (·.size) = some 4 := by kernel_rfl
  obtain ⟨d, hu⟩ := isStruct_of (P := Tryd.prog) (t := 67) (by kernel_rfl)
  have HU := Lib.hid (And.intro hi hu)
  have C1 := Lib.hid (refHas_in A n cap l k _ _ (h.below hb) (by omega) hk)
  rw [hx] at C1
  have P0 : Hid (∀ W, Below w.heap.size w W → Calls Tryd.prog 73 #[.slice A n cap, .int .i64 ((k + 5) : Nat), .int .i64 0] W fun e w' => e = .returned (partV (some (s0, j0))) ∧ Below W.heap.size W w') := Lib.hid fun W hb => by
    have := refPart0_c A n cap l (k + 5) W ((h.below hb).more hb.size) hm (by omega)
    rwa [show partOut [118, 101, 114, 115, 105, 111, 110] verB l (k + 5) = some (s0, j0) from ho0] at this
  rw [show ((k + 5 : Nat) : Int) = (k : Int) + 5 by omega] at P0
  have P1 : Hid (∀ W, Below w.heap.size w W → Calls Tryd.prog 73 #[.slice A n cap, .int .i64 (j0 : Nat), .int .i64 1] W fun e w' => e = .returned (partV (some ([], j0))) ∧ Below W.heap.size W w') := Lib.hid fun W hb => by
    have := refPart1_c A n cap l j0 W ((h.below hb).more hb.size) hm (by omega)
    rwa [show partOut [101, 110, 99, 111, 100, 105, 110, 103] encB l j0 = some ([], j0) from ho1] at this
  have P2 : Hid (∀ W, Below w.heap.size w W → Calls Tryd.prog 73 #[.slice A n cap, .int .i64 (j0 : Nat), .int .i64 2] W fun e w' => e = .returned (partV (some ([], j0))) ∧ Below W.heap.size W w') := Lib.hid fun W hb => by
    have := refPart2_c A n cap l j0 W ((h.below hb).more hb.size) hm (by omega)
    rwa [show partOut [115, 116, 97, 110, 100, 97, 108, 111, 110, 101] aloneB l j0 = some ([], j0) from ho2] at this
  have CB : Hid (∀ W, Below w.heap.size w W → Calls Tryd.prog 74 #[.slice A n cap, .int .i64 (j0 : Nat)] W fun e w' => e = .returned (.int .i64 (blankTo l j0)) ∧ W = w') := Lib.hid fun W hb => refBlanks_c A n cap l j0 _ W (h.below hb) (by omega) (by omega)
  have hbl := blankTo_le l j0 (by omega)
  have CA : Hid (∀ W, Below w.heap.size w W → Calls Tryd.prog 75 #[.slice A n cap, .int .i64 (blankTo l j0 : Int), .string ⟨#[63, 62]⟩] W fun e w' => e = .returned (.bool false) ∧ W = w') := Lib.hid fun W hb => by
    have := refAt8_c A n cap l (blankTo l j0) [63, 62] _ W (h.below hb) (by simp) (by omega) (by simp) (by omega)
    rwa [ht] at this
  have hbi : (blankTo l j0 : Int) ≤ 40000 := by omega
  generalize blankTo l j0 = bt at *
  unfold partV at P0 P1 P2
  have HJ := Lib.hid hJ
  have hk' : ¬ (n : Int) < (k : Int) := by omega
  have hk0 : (0 : Int) ≤ (k : Int) := by omega
  have hk1 : (k : Int) ≤ 40000 := by omega
  have e0 : ((j0 : Int) == (k : Int) + 5) = false := by simp; omega
  have g0 : ¬ (j0 : Int) < 0 := by omega
  clear hi hu h hx hb hJ hln hkl ho0 ho1 ho2 hlt0 hle0 ht hbl
  go_enter Tryd.func45, Tryd.ntmps45
  go_wp2_with fail
  refine (C1.out).mono ?_
  rintro e wq ⟨rfl, rfl⟩
  go_wp2
  refine wp_loop_rounds 4 ?_
  rw [rounds_succ]
  go_wp2_with fail
  refine (P0.out _ HJ.out.1).mono ?_
  rintro e w1 ⟨rfl, hb1⟩
  have J0a := Lib.hid (HJ.out.kept hb1)
  clear hb1
  have z0 := cell_of 1 J0a.out.2.2.2
  have y0 := free_of 1 J0a.out.2.2.2
  have J0b : Hid (DJ w (w1.setCell ⟨w.heap.size + 1, 1, none⟩ (.string ⟨s0.toArray⟩)) #[.bool false, .string ⟨#[]⟩, .string ⟨#[]⟩, .string ⟨#[]⟩] #[.bool true, .string ⟨s0.toArray⟩, .string ⟨#[]⟩, .string ⟨#[]⟩]) := Lib.hid (J0a.out.set 1 (.string ⟨s0.toArray⟩))
  go_wp2
  clear z0 y0
  generalize w1.setCell ⟨w.heap.size + 1, 1, none⟩ (.string ⟨s0.toArray⟩) = v1 at *
  rw [rounds_succ]
  go_wp2_with fail
  refine (P1.out _ J0b.out.1).mono ?_
  rintro e w2 ⟨rfl, hb2⟩
  have J1a := Lib.hid (J0b.out.kept hb2)
  clear hb2
  have z1 := cell_of 2 J1a.out.2.2.2
  have y1 := free_of 2 J1a.out.2.2.2
  have J1b : Hid (DJ w (w2.setCell ⟨w.heap.size + 1, 2, none⟩ (.string ⟨#[]⟩)) #[.bool false, .string ⟨#[]⟩, .string ⟨#[]⟩, .string ⟨#[]⟩] #[.bool true, .string ⟨s0.toArray⟩, .string ⟨#[]⟩, .string ⟨#[]⟩]) := Lib.hid (J1a.out.set 2 (.string ⟨#[]⟩))
  go_wp2
  clear z1 y1
  generalize w2.setCell ⟨w.heap.size + 1, 2, none⟩ (.string ⟨#[]⟩) = v2 at *
  rw [rounds_succ]
  go_wp2_with fail
  refine (P2.out _ J1b.out.1).mono ?_
  rintro e w3 ⟨rfl, hb3⟩
  have J2a := Lib.hid (J1b.out.kept hb3)
  clear hb3
  have z2 := cell_of 3 J2a.out.2.2.2
  have y2 := free_of 3 J2a.out.2.2.2
  have J2b : Hid (DJ w (w3.setCell ⟨w.heap.size + 1, 3, none⟩ (.string ⟨#[]⟩)) #[.bool false, .string ⟨#[]⟩, .string ⟨#[]⟩, .string ⟨#[]⟩] #[.bool true, .string ⟨s0.toArray⟩, .string ⟨#[]⟩, .string ⟨#[]⟩]) := Lib.hid (J2a.out.set 3 (.string ⟨#[]⟩))
  go_wp2
  clear z2 y2
  generalize w3.setCell ⟨w.heap.size + 1, 3, none⟩ (.string ⟨#[]⟩) = v3 at *
  rw [rounds_succ]
  go_wp2_with fail
  refine (CB.out _ J2b.out.1).mono ?_
  rintro e wq ⟨rfl, rfl⟩
  go_wp2_with fail
  refine (CA.out _ J2b.out.1).mono ?_
  rintro e wq ⟨rfl, rfl⟩
  have JF := Lib.hid (J2b.out.row #[.bool false, .string ⟨#[]⟩, .string ⟨#[]⟩, .string ⟨#[]⟩])
  go_wp2_with (refine wpList_store_row rfl _ _ _ rfl w.heap.size #[.bool false, .string ⟨#[]⟩, .string ⟨#[]⟩, .string ⟨#[]⟩] rfl rfl _ _ J2b.out.2.2.1 (by kernel_rfl) rfl (by kernel_rfl) ?_)
  (try simp only [Exit.inBlock, Exit.then])
  exact bodyPost_ret (results_cell3 rfl _ _ w.heap.size _ _ _ _ rfl JF.out.2.2.1 HU.out.2 rfl HU.out.1) rfl ⟨rfl, JF.out.1⟩
set_option maxRecDepth 100000 in
set_option maxHeartbeats 8000000 in
theorem refRead_f_found_same_found_yes (A : Option Addr) (n cap : Nat) (l : List UInt8) (k : Nat) (w : World) (h : Byt w w.heap.size A n cap l) (hm : n ≤ 40000) (hk : k ≤ n) (hx : hasX l k = true) (s0 : List UInt8) (j0 : Nat) (ho0 : partOut verW verB l (k + 5) = some (s0, j0)) (hlt0 : (k + 5) < j0) (hle0 : j0 ≤ n) (ho1 : partOut encW encB l j0 = some ([], j0)) (s2 : List UInt8) (j2 : Nat) (ho2 : partOut aloneW aloneB l j0 = some (s2, j2)) (hlt2 : j0 < j2) (hle2 : j2 ≤ n) (ht : [63, 62].isPrefixOf (l.drop (blankTo l j2)) = true) :
    Calls Tryd.prog 45 #[.slice A n cap, .int .i64 k, .bool false] w fun e w' => e = .returned (declV (⟨true, s0, [], s2⟩, blankTo l j2 + 2, 0)) ∧ Below w.heap.size w w' := by
  have hb := Below.alloc (Below.refl w.heap.size w) (Nat.le_refl _) (.cells #[.bool false, .string ⟨#[]⟩, .string ⟨#[]⟩, .string ⟨#[]⟩] 67)
  have hln := h.length
  have hkl := hasX_le l k n hln hx
  have hJ := dj_start w
  have hi : (Tryd.prog.info? 67).map (·.size) = some 4 := by kernel_rfl
  obtain ⟨d, hu⟩ := isStruct_of (P := Tryd.prog) (t := 67) (by kernel_rfl)
  have HU := Lib.hid (And.intro hi hu)
  have C1 := Lib.hid (refHas_in A n cap l k _ _ (h.below hb) (by omega) hk)
  rw [hx] at C1
  have P0 : Hid (∀ W, Below w.heap.size w W → Calls Tryd.prog 73 #[.slice A n cap, .int .i64 ((k + 5) : Nat), .int .i64 0] W fun e w' => e = .returned (partV (some (s0, j0))) ∧ Below W.heap.size W w') := Lib.hid fun W hb => by
    have := refPart0_c A n cap l (k + 5) W ((h.below hb).more hb.size) hm (by omega)
    rwa [show partOut [118, 101, 114, 115, 105, 111, 110] verB l (k + 5) = some (s0, j0) from ho0] at this
  rw [show ((k + 5 : Nat) : Int) = (k : Int) + 5 by omega] at P0
  have P1 : Hid (∀ W, Below w.heap.size w W → Calls Tryd.prog 73 #[.slice A n cap, .int .i64 (j0 : Nat), .int .i64 1] W fun e w' => e = .returned (partV (some ([], j0))) ∧ Below W.heap.size W w') := Lib.hid fun W hb => by
    have := refPart1_c A n cap l j0 W ((h.below hb).more hb.size) hm (by omega)
    rwa [show partOut [101, 110, 99, 111, 100, 105, 110, 103] encB l j0 = some ([], j0) from ho1] at this
  have P2 : Hid (∀ W, Below w.heap.size w W → Calls Tryd.prog 73 #[.slice A n cap, .int .i64 (j0 : Nat), .int .i64 2] W fun e w' => e = .returned (partV (some (s2, j2))) ∧ Below W.heap.size W w') := Lib.hid fun W hb => by
    have := refPart2_c A n cap l j0 W ((h.below hb).more hb.size) hm (by omega)
    rwa [show partOut [115, 116, 97, 110, 100, 97, 108, 111, 110, 101] aloneB l j0 = some (s2, j2) from ho2] at this
  have CB : Hid (∀ W, Below w.heap.size w W → Calls Tryd.prog 74 #[.slice A n cap, .int .i64 (j2 : Nat)] W fun e w' => e = .returned (.int .i64 (blankTo l j2)) ∧ W = w') := Lib.hid fun W hb => refBlanks_c A n cap l j2 _ W (h.below hb) (by omega) (by omega)
  have hbl := blankTo_le l j2 (by omega)
  have CA : Hid (∀ W, Below w.heap.size w W → Calls Tryd.prog 75 #[.slice A n cap, .int .i64 (blankTo l j2 : Int), .string ⟨#[63, 62]⟩] W fun e w' => e = .returned (.bool true) ∧ W = w') := Lib.hid fun W hb => by
    have := refAt8_c A n cap l (blankTo l j2) [63, 62] _ W (h.below hb) (by simp) (by omega) (by simp) (by omega)
    rwa [ht] at this
  have hbi : (blankTo l j2 : Int) ≤ 40000 := by omega
  generalize blankTo l j2 = bt at *
  unfold partV at P0 P1 P2
  have HJ := Lib.hid hJ
  have hk' : ¬ (n : Int) < (k : Int) := by omega
  have hk0 : (0 : Int) ≤ (k : Int) := by omega
  have hk1 : (k : Int) ≤ 40000 := by omega
  have e0 : ((j0 : Int) == (k : Int) + 5) = false := by simp; omega
  have g0 : ¬ (j0 : Int) < 0 := by omega
  have e2 : ((j2 : Int) == (j0 : Int)) = false := by simp; omega
  have g2 : ¬ (j2 : Int) < 0 := by omega
  clear hi hu h hx hb hJ hln hkl ho0 ho1 ho2 hlt0 hle0 hlt2 hle2 ht hbl
  go_enter Tryd.func45, Tryd.ntmps45
  go_wp2_with fail
  refine (C1.out).mono ?_
  rintro e wq ⟨rfl, rfl⟩
  go_wp2
  refine wp_loop_rounds 4 ?_
  rw [rounds_succ]
  go_wp2_with fail
  refine (P0.out _ HJ.out.1).mono ?_
  rintro e w1 ⟨rfl, hb1⟩
  have J0a := Lib.hid (HJ.out.kept hb1)
  clear hb1
  have z0 := cell_of 1 J0a.out.2.2.2
  have y0 := free_of 1 J0a.out.2.2.2
  have J0b : Hid (DJ w (w1.setCell ⟨w.heap.size + 1, 1, none⟩ (.string ⟨s0.toArray⟩)) #[.bool false, .string ⟨#[]⟩, .string ⟨#[]⟩, .string ⟨#[]⟩] #[.bool true, .string ⟨s0.toArray⟩, .string ⟨#[]⟩, .string ⟨#[]⟩]) := Lib.hid (J0a.out.set 1 (.string ⟨s0.toArray⟩))
  go_wp2
  clear z0 y0
  generalize w1.setCell ⟨w.heap.size + 1, 1, none⟩ (.string ⟨s0.toArray⟩) = v1 at *
  rw [rounds_succ]
  go_wp2_with fail
  refine (P1.out _ J0b.out.1).mono ?_
  rintro e w2 ⟨rfl, hb2⟩
  have J1a := Lib.hid (J0b.out.kept hb2)
  clear hb2
  have z1 := cell_of 2 J1a.out.2.2.2
  have y1 := free_of 2 J1a.out.2.2.2
  have J1b : Hid (DJ w (w2.setCell ⟨w.heap.size + 1, 2, none⟩ (.string ⟨#[]⟩)) #[.bool false, .string ⟨#[]⟩, .string ⟨#[]⟩, .string ⟨#[]⟩] #[.bool true, .string ⟨s0.toArray⟩, .string ⟨#[]⟩, .string ⟨#[]⟩]) := Lib.hid (J1a.out.set 2 (.string ⟨#[]⟩))
  go_wp2
  clear z1 y1
  generalize w2.setCell ⟨w.heap.size + 1, 2, none⟩ (.string ⟨#[]⟩) = v2 at *
  rw [rounds_succ]
  go_wp2_with fail
  refine (P2.out _ J1b.out.1).mono ?_
  rintro e w3 ⟨rfl, hb3⟩
  have J2a := Lib.hid (J1b.out.kept hb3)
  clear hb3
  have z2 := cell_of 3 J2a.out.2.2.2
  have y2 := free_of 3 J2a.out.2.2.2
  have J2b : Hid (DJ w (w3.setCell ⟨w.heap.size + 1, 3, none⟩ (.string ⟨s2.toArray⟩)) #[.bool false, .string ⟨#[]⟩, .string ⟨#[]⟩, .string ⟨#[]⟩] #[.bool true, .string ⟨s0.toArray⟩, .string ⟨#[]⟩, .string ⟨s2.toArray⟩]) := Lib.hid (J2a.out.set 3 (.string ⟨s2.toArray⟩))
  go_wp2
  clear z2 y2
  generalize w3.setCell ⟨w.heap.size + 1, 3, none⟩ (.string ⟨s2.toArray⟩) = v3 at *
  rw [rounds_succ]
  go_wp2_with fail
  refine (CB.out _ J2b.out.1).mono ?_
  rintro e wq ⟨rfl, rfl⟩
  go_wp2_with fail
  refine (CA.out _ J2b.out.1).mono ?_
  rintro e wq ⟨rfl, rfl⟩
  have JF := Lib.hid (J2b.out.row #[.bool true, .string ⟨s0.toArray⟩, .string ⟨#[]⟩, .string ⟨s2.toArray⟩])
  go_wp2_with (first | (refine wpList_load_row rfl _ _ rfl (w.heap.size + 1) rfl _ _ _ _ J2b.out.2.2.2 HU.out.2 rfl HU.out.1 ?_) | (refine wpList_store_row rfl _ _ _ rfl w.heap.size #[.bool true, .string ⟨s0.toArray⟩, .string ⟨#[]⟩, .string ⟨s2.toArray⟩] rfl rfl _ _ J2b.out.2.2.1 (by kernel_rfl) rfl (by kernel_rfl) ?_))
  (try simp only [Exit.inBlock, Exit.then])
  exact bodyPost_ret (results_cell3 rfl _ _ w.heap.size _ _ _ _ rfl JF.out.2.2.1 HU.out.2 rfl HU.out.1) rfl ⟨rfl, JF.out.1⟩
set_option maxRecDepth 100000 in
set_option maxHeartbeats 8000000 in
theorem refRead_f_found_same_found_no (A : Option Addr) (n cap : Nat) (l : List UInt8) (k : Nat) (w : World) (h : Byt w w.heap.size A n cap l) (hm : n ≤ 40000) (hk : k ≤ n) (hx : hasX l k = true) (s0 : List UInt8) (j0 : Nat) (ho0 : partOut verW verB l (k + 5) = some (s0, j0)) (hlt0 : (k + 5) < j0) (hle0 : j0 ≤ n) (ho1 : partOut encW encB l j0 = some ([], j0)) (s2 : List UInt8) (j2 : Nat) (ho2 : partOut aloneW aloneB l j0 = some (s2, j2)) (hlt2 : j0 < j2) (hle2 : j2 ≤ n) (ht : [63, 62].isPrefixOf (l.drop (blankTo l j2)) = false) :
    Calls Tryd.prog 45 #[.slice A n cap, .int .i64 k, .bool false] w fun e w' => e = .returned (declV (noDecl, 0, 7)) ∧ Below w.heap.size w w' := by
  have hb := Below.alloc (Below.refl w.heap.size w) (Nat.le_refl _) (.cells #[.bool false, .string ⟨#[]⟩, .string ⟨#[]⟩, .string ⟨#[]⟩] 67)
  have hln := h.length
  have hkl := hasX_le l k n hln hx
  have hJ := dj_start w
  have hi : (Tryd.prog.info? 67).map (·.size) = some 4 := by kernel_rfl
  obtain ⟨d, hu⟩ := isStruct_of (P := Tryd.prog) (t := 67) (by kernel_rfl)
  have HU := Lib.hid (And.intro hi hu)
  have C1 := Lib.hid (refHas_in A n cap l k _ _ (h.below hb) (by omega) hk)
  rw [hx] at C1
  have P0 : Hid (∀ W, Below w.heap.size w W → Calls Tryd.prog 73 #[.slice A n cap, .int .i64 ((k + 5) : Nat), .int .i64 0] W fun e w' => e = .returned (partV (some (s0, j0))) ∧ Below W.heap.size W w') := Lib.hid fun W hb => by
    have := refPart0_c A n cap l (k + 5) W ((h.below hb).more hb.size) hm (by omega)
    rwa [show partOut [118, 101, 114, 115, 105, 111, 110] verB l (k + 5) = some (s0, j0) from ho0] at this
  rw [show ((k + 5 : Nat) : Int) = (k : Int) + 5 by omega] at P0
  have P1 : Hid (∀ W, Below w.heap.size w W → Calls Tryd.prog 73 #[.slice A n cap, .int .i64 (j0 : Nat), .int .i64 1] W fun e w' => e = .returned (partV (some ([], j0))) ∧ Below W.heap.size W w') := Lib.hid fun W hb => by
    have := refPart1_c A n cap l j0 W ((h.below hb).more hb.size) hm (by omega)
    rwa [show partOut [101, 110, 99, 111, 100, 105, 110, 103] encB l j0 = some ([], j0) from ho1] at this
  have P2 : Hid (∀ W, Below w.heap.size w W → Calls Tryd.prog 73 #[.slice A n cap, .int .i64 (j0 : Nat), .int .i64 2] W fun e w' => e = .returned (partV (some (s2, j2))) ∧ Below W.heap.size W w') := Lib.hid fun W hb => by
    have := refPart2_c A n cap l j0 W ((h.below hb).more hb.size) hm (by omega)
    rwa [show partOut [115, 116, 97, 110, 100, 97, 108, 111, 110, 101] aloneB l j0 = some (s2, j2) from ho2] at this
  have CB : Hid (∀ W, Below w.heap.size w W → Calls Tryd.prog 74 #[.slice A n cap, .int .i64 (j2 : Nat)] W fun e w' => e = .returned (.int .i64 (blankTo l j2)) ∧ W = w') := Lib.hid fun W hb => refBlanks_c A n cap l j2 _ W (h.below hb) (by omega) (by omega)
  have hbl := blankTo_le l j2 (by omega)
  have CA : Hid (∀ W, Below w.heap.size w W → Calls Tryd.prog 75 #[.slice A n cap, .int .i64 (blankTo l j2 : Int), .string ⟨#[63, 62]⟩] W fun e w' => e = .returned (.bool false) ∧ W = w') := Lib.hid fun W hb => by
    have := refAt8_c A n cap l (blankTo l j2) [63, 62] _ W (h.below hb) (by simp) (by omega) (by simp) (by omega)
    rwa [ht] at this
  have hbi : (blankTo l j2 : Int) ≤ 40000 := by omega
  generalize blankTo l j2 = bt at *
  unfold partV at P0 P1 P2
  have HJ := Lib.hid hJ
  have hk' : ¬ (n : Int) < (k : Int) := by omega
  have hk0 : (0 : Int) ≤ (k : Int) := by omega
  have hk1 : (k : Int) ≤ 40000 := by omega
  have e0 : ((j0 : Int) == (k : Int) + 5) = false := by simp; omega
  have g0 : ¬ (j0 : Int) < 0 := by omega
  have e2 : ((j2 : Int) == (j0 : Int)) = false := by simp; omega
  have g2 : ¬ (j2 : Int) < 0 := by omega
  clear hi hu h hx hb hJ hln hkl ho0 ho1 ho2 hlt0 hle0 hlt2 hle2 ht hbl
  go_enter Tryd.func45, Tryd.ntmps45
  go_wp2_with fail
  refine (C1.out).mono ?_
  rintro e wq ⟨rfl, rfl⟩
  go_wp2
  refine wp_loop_rounds 4 ?_
  rw [rounds_succ]
  go_wp2_with fail
  refine (P0.out _ HJ.out.1).mono ?_
  rintro e w1 ⟨rfl, hb1⟩
  have J0a := Lib.hid (HJ.out.kept hb1)
  clear hb1
  have z0 := cell_of 1 J0a.out.2.2.2
  have y0 := free_of 1 J0a.out.2.2.2
  have J0b : Hid (DJ w (w1.setCell ⟨w.heap.size + 1, 1, none⟩ (.string ⟨s0.toArray⟩)) #[.bool false, .string ⟨#[]⟩, .string ⟨#[]⟩, .string ⟨#[]⟩] #[.bool true, .string ⟨s0.toArray⟩, .string ⟨#[]⟩, .string ⟨#[]⟩]) := Lib.hid (J0a.out.set 1 (.string ⟨s0.toArray⟩))
  go_wp2
  clear z0 y0
  generalize w1.setCell ⟨w.heap.size + 1, 1, none⟩ (.string ⟨s0.toArray⟩) = v1 at *
  rw [rounds_succ]
  go_wp2_with fail
  refine (P1.out _ J0b.out.1).mono ?_
  rintro e w2 ⟨rfl, hb2⟩
  have J1a := Lib.hid (J0b.out.kept hb2)
  clear hb2
  have z1 := cell_of 2 J1a.out.2.2.2
  have y1 := free_of 2 J1a.out.2.2.2
  have J1b : Hid (DJ w (w2.setCell ⟨w.heap.size + 1, 2, none⟩ (.string ⟨#[]⟩)) #[.bool false, .string ⟨#[]⟩, .string ⟨#[]⟩, .string ⟨#[]⟩] #[.bool true, .string ⟨s0.toArray⟩, .string ⟨#[]⟩, .string ⟨#[]⟩]) := Lib.hid (J1a.out.set 2 (.string ⟨#[]⟩))
  go_wp2
  clear z1 y1
  generalize w2.setCell ⟨w.heap.size + 1, 2, none⟩ (.string ⟨#[]⟩) = v2 at *
  rw [rounds_succ]
  go_wp2_with fail
  refine (P2.out _ J1b.out.1).mono ?_
  rintro e w3 ⟨rfl, hb3⟩
  have J2a := Lib.hid (J1b.out.kept hb3)
  clear hb3
  have z2 := cell_of 3 J2a.out.2.2.2
  have y2 := free_of 3 J2a.out.2.2.2
  have J2b : Hid (DJ w (w3.setCell ⟨w.heap.size + 1, 3, none⟩ (.string ⟨s2.toArray⟩)) #[.bool false, .string ⟨#[]⟩, .string ⟨#[]⟩, .string ⟨#[]⟩] #[.bool true, .string ⟨s0.toArray⟩, .string ⟨#[]⟩, .string ⟨s2.toArray⟩]) := Lib.hid (J2a.out.set 3 (.string ⟨s2.toArray⟩))
  go_wp2
  clear z2 y2
  generalize w3.setCell ⟨w.heap.size + 1, 3, none⟩ (.string ⟨s2.toArray⟩) = v3 at *
  rw [rounds_succ]
  go_wp2_with fail
  refine (CB.out _ J2b.out.1).mono ?_
  rintro e wq ⟨rfl, rfl⟩
  go_wp2_with fail
  refine (CA.out _ J2b.out.1).mono ?_
  rintro e wq ⟨rfl, rfl⟩
  have JF := Lib.hid (J2b.out.row #[.bool false, .string ⟨#[]⟩, .string ⟨#[]⟩, .string ⟨#[]⟩])
  go_wp2_with (refine wpList_store_row rfl _ _ _ rfl w.heap.size #[.bool false, .string ⟨#[]⟩, .string ⟨#[]⟩, .string ⟨#[]⟩] rfl rfl _ _ J2b.out.2.2.1 (by kernel_rfl) rfl (by kernel_rfl) ?_)
  (try simp only [Exit.inBlock, Exit.then])
  exact bodyPost_ret (results_cell3 rfl _ _ w.heap.size _ _ _ _ rfl JF.out.2.2.1 HU.out.2 rfl HU.out.1) rfl ⟨rfl, JF.out.1⟩
set_option maxRecDepth 100000 in
set_option maxHeartbeats 8000000 in
theorem refRead_f_found_found_none (A : Option Addr) (n cap : Nat) (l : List UInt8) (k : Nat) (w : World) (h : Byt w w.heap.size A n cap l) (hm : n ≤ 40000) (hk : k ≤ n) (hx : hasX l k = true) (s0 : List UInt8) (j0 : Nat) (ho0 : partOut verW verB l (k + 5) = some (s0, j0)) (hlt0 : (k + 5) < j0) (hle0 : j0 ≤ n) (s1 : List UInt8) (j1 : Nat) (ho1 : partOut encW encB l j0 = some (s1, j1)) (hlt1 : j0 < j1) (hle1 : j1 ≤ n) (ho2 : partOut aloneW aloneB l j1 = none) :
    Calls Tryd.prog 45 #[.slice A n cap, .int .i64 k, .bool false] w fun e w' => e = .returned (declV (noDecl, 0, 7)) ∧ Below w.heap.size w w' := by
  have hb := Below.alloc (Below.refl w.heap.size w) (Nat.le_refl _) (.cells #[.bool false, .string ⟨#[]⟩, .string ⟨#[]⟩, .string ⟨#[]⟩] 67)
  have hln := h.length
  have hkl := hasX_le l k n hln hx
  have hJ := dj_start w
  have hi : (Tryd.prog.info? 67).map (·.size) = some 4 := by kernel_rfl
  obtain ⟨d, hu⟩ := isStruct_of (P := Tryd.prog) (t := 67) (by kernel_rfl)
  have HU := Lib.hid (And.intro hi hu)
  have C1 := Lib.hid (refHas_in A n cap l k _ _ (h.below hb) (by omega) hk)
  rw [hx] at C1
  have P0 : Hid (∀ W, Below w.heap.size w W → Calls Tryd.prog 73 #[.slice A n cap, .int .i64 ((k + 5) : Nat), .int .i64 0] W fun e w' => e = .returned (partV (some (s0, j0))) ∧ Below W.heap.size W w') := Lib.hid fun W hb => by
    have := refPart0_c A n cap l (k + 5) W ((h.below hb).more hb.size) hm (by omega)
    rwa [show partOut [118, 101, 114, 115, 105, 111, 110] verB l (k + 5) = some (s0, j0) from ho0] at this
  rw [show ((k + 5 : Nat) : Int) = (k : Int) + 5 by omega] at P0
  have P1 : Hid (∀ W, Below w.heap.size w W → Calls Tryd.prog 73 #[.slice A n cap, .int .i64 (j0 : Nat), .int .i64 1] W fun e w' => e = .returned (partV (some (s1, j1))) ∧ Below W.heap.size W w') := Lib.hid fun W hb => by
    have := refPart1_c A n cap l j0 W ((h.below hb).more hb.size) hm (by omega)
    rwa [show partOut [101, 110, 99, 111, 100, 105, 110, 103] encB l j0 = some (s1, j1) from ho1] at this
  have P2 : Hid (∀ W, Below w.heap.size w W → Calls Tryd.prog 73 #[.slice A n cap, .int .i64 (j1 : Nat), .int .i64 2] W fun e w' => e = .returned (partV (none)) ∧ Below W.heap.size W w') := Lib.hid fun W hb => by
    have := refPart2_c A n cap l j1 W ((h.below hb).more hb.size) hm (by omega)
    rwa [show partOut [115, 116, 97, 110, 100, 97, 108, 111, 110, 101] aloneB l j1 = none from ho2] at this
  unfold partV at P0 P1 P2
  have HJ := Lib.hid hJ
  have hk' : ¬ (n : Int) < (k : Int) := by omega
  have hk0 : (0 : Int) ≤ (k : Int) := by omega
  have hk1 : (k : Int) ≤ 40000 := by omega
  have e0 : ((j0 : Int) == (k : Int) + 5) = false := by simp; omega
  have g0 : ¬ (j0 : Int) < 0 := by omega
  have e1 : ((j1 : Int) == (j0 : Int)) = false := by simp; omega
  have g1 : ¬ (j1 : Int) < 0 := by omega
  clear hi hu h hx hb hJ hln hkl ho0 ho1 ho2 hlt0 hle0 hlt1 hle1
  go_enter Tryd.func45, Tryd.ntmps45
  go_wp2_with fail
  refine (C1.out).mono ?_
  rintro e wq ⟨rfl, rfl⟩
  go_wp2
  refine wp_loop_rounds 4 ?_
  rw [rounds_succ]
  go_wp2_with fail
  refine (P0.out _ HJ.out.1).mono ?_
  rintro e w1 ⟨rfl, hb1⟩
  have J0a := Lib.hid (HJ.out.kept hb1)
  clear hb1
  have z0 := cell_of 1 J0a.out.2.2.2
  have y0 := free_of 1 J0a.out.2.2.2
  have J0b : Hid (DJ w (w1.setCell ⟨w.heap.size + 1, 1, none⟩ (.string ⟨s0.toArray⟩)) #[.bool false, .string ⟨#[]⟩, .string ⟨#[]⟩, .string ⟨#[]⟩] #[.bool true, .string ⟨s0.toArray⟩, .string ⟨#[]⟩, .string ⟨#[]⟩]) := Lib.hid (J0a.out.set 1 (.string ⟨s0.toArray⟩))
  go_wp2
  clear z0 y0
  generalize w1.setCell ⟨w.heap.size + 1, 1, none⟩ (.string ⟨s0.toArray⟩) = v1 at *
  rw [rounds_succ]
  go_wp2_with fail
  refine (P1.out _ J0b.out.1).mono ?_
  rintro e w2 ⟨rfl, hb2⟩
  have J1a := Lib.hid (J0b.out.kept hb2)
  clear hb2
  have z1 := cell_of 2 J1a.out.2.2.2
  have y1 := free_of 2 J1a.out.2.2.2
  have J1b : Hid (DJ w (w2.setCell ⟨w.heap.size + 1, 2, none⟩ (.string ⟨s1.toArray⟩)) #[.bool false, .string ⟨#[]⟩, .string ⟨#[]⟩, .string ⟨#[]⟩] #[.bool true, .string ⟨s0.toArray⟩, .string ⟨s1.toArray⟩, .string ⟨#[]⟩]) := Lib.hid (J1a.out.set 2 (.string ⟨s1.toArray⟩))
  go_wp2
  clear z1 y1
  generalize w2.setCell ⟨w.heap.size + 1, 2, none⟩ (.string ⟨s1.toArray⟩) = v2 at *
  rw [rounds_succ]
  go_wp2_with fail
  refine (P2.out _ J1b.out.1).mono ?_
  rintro e w3 ⟨rfl, hb3⟩
  have J2a := Lib.hid (J1b.out.kept hb3)
  clear hb3
  have JF := Lib.hid (J2a.out.row #[.bool false, .string ⟨#[]⟩, .string ⟨#[]⟩, .string ⟨#[]⟩])
  go_wp2_with (refine wpList_store_row rfl _ _ _ rfl w.heap.size #[.bool false, .string ⟨#[]⟩, .string ⟨#[]⟩, .string ⟨#[]⟩] rfl rfl _ _ J2a.out.2.2.1 (by kernel_rfl) rfl (by kernel_rfl) ?_)
  (try simp only [Exit.inBlock, Exit.then])
  exact bodyPost_ret (results_cell3 rfl _ _ w.heap.size _ _ _ _ rfl JF.out.2.2.1 HU.out.2 rfl HU.out.1) rfl ⟨rfl, JF.out.1⟩
set_option maxRecDepth 100000 in
set_option maxHeartbeats 8000000 in
theorem refRead_f_found_found_same_yes (A : Option Addr) (n cap : Nat) (l : List UInt8) (k : Nat) (w : World) (h : Byt w w.heap.size A n cap l) (hm : n ≤ 40000) (hk : k ≤ n) (hx : hasX l k = true) (s0 : List UInt8) (j0 : Nat) (ho0 : partOut verW verB l (k + 5) = some (s0, j0)) (hlt0 : (k + 5) < j0) (hle0 : j0 ≤ n) (s1 : List UInt8) (j1 : Nat) (ho1 : partOut encW encB l j0 = some (s1, j1)) (hlt1 : j0 < j1) (hle1 : j1 ≤ n) (ho2 : partOut aloneW aloneB l j1 = some ([], j1)) (ht : [63, 62].isPrefixOf (l.drop (blankTo l j1)) = true) :
    Calls Tryd.prog 45 #[.slice A n cap, .int .i64 k, .bool false] w fun e w' => e = .returned (declV (⟨true, s0, s1, []⟩, blankTo l j1 + 2, 0)) ∧ Below w.heap.size w w' := by
  have hb := Below.alloc (Below.refl w.heap.size w) (Nat.le_refl _) (.cells #[.bool false, .string ⟨#[]⟩, .string ⟨#[]⟩, .string ⟨#[]⟩] 67)
  have hln := h.length
  have hkl := hasX_le l k n hln hx
  have hJ := dj_start w
  have hi : (Tryd.prog.info? 67).map (·.size) = some 4 := by kernel_rfl
  obtain ⟨d, hu⟩ := isStruct_of (P := Tryd.prog) (t := 67) (by kernel_rfl)
  have HU := Lib.hid (And.intro hi hu)
  have C1 := Lib.hid (refHas_in A n cap l k _ _ (h.below hb) (by omega) hk)
  rw [hx] at C1
  have P0 : Hid (∀ W, Below w.heap.size w W → Calls Tryd.prog 73 #[.slice A n cap, .int .i64 ((k + 5) : Nat), .int .i64 0] W fun e w' => e = .returned (partV (some (s0, j0))) ∧ Below W.heap.size W w') := Lib.hid fun W hb => by
    have := refPart0_c A n cap l (k + 5) W ((h.below hb).more hb.size) hm (by omega)
    rwa [show partOut [118, 101, 114, 115, 105, 111, 110] verB l (k + 5) = some (s0, j0) from ho0] at this
  rw [show ((k + 5 : Nat) : Int) = (k : Int) + 5 by omega] at P0
  have P1 : Hid (∀ W, Below w.heap.size w W → Calls Tryd.prog 73 #[.slice A n cap, .int .i64 (j0 : Nat), .int .i64 1] W fun e w' => e = .returned (partV (some (s1, j1))) ∧ Below W.heap.size W w') := Lib.hid fun W hb => by
    have := refPart1_c A n cap l j0 W ((h.below hb).more hb.size) hm (by omega)
    rwa [show partOut [101, 110, 99, 111, 100, 105, 110, 103] encB l j0 = some (s1, j1) from ho1] at this
  have P2 : Hid (∀ W, Below w.heap.size w W → Calls Tryd.prog 73 #[.slice A n cap, .int .i64 (j1 : Nat), .int .i64 2] W fun e w' => e = .returned (partV (some ([], j1))) ∧ Below W.heap.size W w') := Lib.hid fun W hb => by
    have := refPart2_c A n cap l j1 W ((h.below hb).more hb.size) hm (by omega)
    rwa [show partOut [115, 116, 97, 110, 100, 97, 108, 111, 110, 101] aloneB l j1 = some ([], j1) from ho2] at this
  have CB : Hid (∀ W, Below w.heap.size w W → Calls Tryd.prog 74 #[.slice A n cap, .int .i64 (j1 : Nat)] W fun e w' => e = .returned (.int .i64 (blankTo l j1)) ∧ W = w') := Lib.hid fun W hb => refBlanks_c A n cap l j1 _ W (h.below hb) (by omega) (by omega)
  have hbl := blankTo_le l j1 (by omega)
  have CA : Hid (∀ W, Below w.heap.size w W → Calls Tryd.prog 75 #[.slice A n cap, .int .i64 (blankTo l j1 : Int), .string ⟨#[63, 62]⟩] W fun e w' => e = .returned (.bool true) ∧ W = w') := Lib.hid fun W hb => by
    have := refAt8_c A n cap l (blankTo l j1) [63, 62] _ W (h.below hb) (by simp) (by omega) (by simp) (by omega)
    rwa [ht] at this
  have hbi : (blankTo l j1 : Int) ≤ 40000 := by omega
  generalize blankTo l j1 = bt at *
  unfold partV at P0 P1 P2
  have HJ := Lib.hid hJ
  have hk' : ¬ (n : Int) < (k : Int) := by omega
  have hk0 : (0 : Int) ≤ (k : Int) := by omega
  have hk1 : (k : Int) ≤ 40000 := by omega
  have e0 : ((j0 : Int) == (k : Int) + 5) = false := by simp; omega
  have g0 : ¬ (j0 : Int) < 0 := by omega
  have e1 : ((j1 : Int) == (j0 : Int)) = false := by simp; omega
  have g1 : ¬ (j1 : Int) < 0 := by omega
  clear hi hu h hx hb hJ hln hkl ho0 ho1 ho2 hlt0 hle0 hlt1 hle1 ht hbl
  go_enter Tryd.func45, Tryd.ntmps45
  go_wp2_with fail
  refine (C1.out).mono ?_
  rintro e wq ⟨rfl, rfl⟩
  go_wp2
  refine wp_loop_rounds 4 ?_
  rw [rounds_succ]
  go_wp2_with fail
  refine (P0.out _ HJ.out.1).mono ?_
  rintro e w1 ⟨rfl, hb1⟩
  have J0a := Lib.hid (HJ.out.kept hb1)
  clear hb1
  have z0 := cell_of 1 J0a.out.2.2.2
  have y0 := free_of 1 J0a.out.2.2.2
  have J0b : Hid (DJ w (w1.setCell ⟨w.heap.size + 1, 1, none⟩ (.string ⟨s0.toArray⟩)) #[.bool false, .string ⟨#[]⟩, .string ⟨#[]⟩, .string ⟨#[]⟩] #[.bool true, .string ⟨s0.toArray⟩, .string ⟨#[]⟩, .string ⟨#[]⟩]) := Lib.hid (J0a.out.set 1 (.string ⟨s0.toArray⟩))
  go_wp2
  clear z0 y0
  generalize w1.setCell ⟨w.heap.size + 1, 1, none⟩ (.string ⟨s0.toArray⟩) = v1 at *
  rw [rounds_succ]
  go_wp2_with fail
  refine (P1.out _ J0b.out.1).mono ?_
  rintro e w2 ⟨rfl, hb2⟩
  have J1a := Lib.hid (J0b.out.kept hb2)
  clear hb2
  have z1 := cell_of 2 J1a.out.2.2.2
  have y1 := free_of 2 J1a.out.2.2.2
  have J1b : Hid (DJ w (w2.setCell ⟨w.heap.size + 1, 2, none⟩ (.string ⟨s1.toArray⟩)) #[.bool false, .string ⟨#[]⟩, .string ⟨#[]⟩, .string ⟨#[]⟩] #[.bool true, .string ⟨s0.toArray⟩, .string ⟨s1.toArray⟩, .string ⟨#[]⟩]) := Lib.hid (J1a.out.set 2 (.string ⟨s1.toArray⟩))
  go_wp2
  clear z1 y1
  generalize w2.setCell ⟨w.heap.size + 1, 2, none⟩ (.string ⟨s1.toArray⟩) = v2 at *
  rw [rounds_succ]
  go_wp2_with fail
  refine (P2.out _ J1b.out.1).mono ?_
  rintro e w3 ⟨rfl, hb3⟩
  have J2a := Lib.hid (J1b.out.kept hb3)
  clear hb3
  have z2 := cell_of 3 J2a.out.2.2.2
  have y2 := free_of 3 J2a.out.2.2.2
  have J2b : Hid (DJ w (w3.setCell ⟨w.heap.size + 1, 3, none⟩ (.string ⟨#[]⟩)) #[.bool false, .string ⟨#[]⟩, .string ⟨#[]⟩, .string ⟨#[]⟩] #[.bool true, .string ⟨s0.toArray⟩, .string ⟨s1.toArray⟩, .string ⟨#[]⟩]) := Lib.hid (J2a.out.set 3 (.string ⟨#[]⟩))
  go_wp2
  clear z2 y2
  generalize w3.setCell ⟨w.heap.size + 1, 3, none⟩ (.string ⟨#[]⟩) = v3 at *
  rw [rounds_succ]
  go_wp2_with fail
  refine (CB.out _ J2b.out.1).mono ?_
  rintro e wq ⟨rfl, rfl⟩
  go_wp2_with fail
  refine (CA.out _ J2b.out.1).mono ?_
  rintro e wq ⟨rfl, rfl⟩
  have JF := Lib.hid (J2b.out.row #[.bool true, .string ⟨s0.toArray⟩, .string ⟨s1.toArray⟩, .string ⟨#[]⟩])
  go_wp2_with (first | (refine wpList_load_row rfl _ _ rfl (w.heap.size + 1) rfl _ _ _ _ J2b.out.2.2.2 HU.out.2 rfl HU.out.1 ?_) | (refine wpList_store_row rfl _ _ _ rfl w.heap.size #[.bool true, .string ⟨s0.toArray⟩, .string ⟨s1.toArray⟩, .string ⟨#[]⟩] rfl rfl _ _ J2b.out.2.2.1 (by kernel_rfl) rfl (by kernel_rfl) ?_))
  (try simp only [Exit.inBlock, Exit.then])
  exact bodyPost_ret (results_cell3 rfl _ _ w.heap.size _ _ _ _ rfl JF.out.2.2.1 HU.out.2 rfl HU.out.1) rfl ⟨rfl, JF.out.1⟩
set_option maxRecDepth 100000 in
set_option maxHeartbeats 8000000 in
theorem refRead_f_found_found_same_no (A : Option Addr) (n cap : Nat) (l : List UInt8) (k : Nat) (w : World) (h : Byt w w.heap.size A n cap l) (hm : n ≤ 40000) (hk : k ≤ n) (hx : hasX l k = true) (s0 : List UInt8) (j0 : Nat) (ho0 : partOut verW verB l (k + 5) = some (s0, j0)) (hlt0 : (k + 5) < j0) (hle0 : j0 ≤ n) (s1 : List UInt8) (j1 : Nat) (ho1 : partOut encW encB l j0 = some (s1, j1)) (hlt1 : j0 < j1) (hle1 : j1 ≤ n) (ho2 : partOut aloneW aloneB l j1 = some ([], j1)) (ht : [63, 62].isPrefixOf (l.drop (blankTo l j1)) = false) :
    Calls Tryd.prog 45 #[.slice A n cap, .int .i64 k, .bool false] w fun e w' => e = .returned (declV (noDecl, 0, 7)) ∧ Below w.heap.size w w' := by
  have hb := Below.alloc (Below.refl w.heap.size w) (Nat.le_refl _) (.cells #[.bool false, .string ⟨#[]⟩, .string ⟨#[]⟩, .string ⟨#[]⟩] 67)
  have hln := h.length
  have hkl := hasX_le l k n hln hx
  have hJ := dj_start w
  have hi : (Tryd.prog.info? 67).map (·.size) = some 4 := by kernel_rfl
  obtain ⟨d, hu⟩ := isStruct_of (P := Tryd.prog) (t := 67) (by kernel_rfl)
  have HU := Lib.hid (And.intro hi hu)
  have C1 := Lib.hid (refHas_in A n cap l k _ _ (h.below hb) (by omega) hk)
  rw [hx] at C1
  have P0 : Hid (∀ W, Below w.heap.size w W → Calls Tryd.prog 73 #[.slice A n cap, .int .i64 ((k + 5) : Nat), .int .i64 0] W fun e w' => e = .returned (partV (some (s0, j0))) ∧ Below W.heap.size W w') := Lib.hid fun W hb => by
    have := refPart0_c A n cap l (k + 5) W ((h.below hb).more hb.size) hm (by omega)
    rwa [show partOut [118, 101, 114, 115, 105, 111, 110] verB l (k + 5) = some (s0, j0) from ho0] at this
  rw [show ((k + 5 : Nat) : Int) = (k : Int) + 5 by omega] at P0
  have P1 : Hid (∀ W, Below w.heap.size w W → Calls Tryd.prog 73 #[.slice A n cap, .int .i64 (j0 : Nat), .int .i64 1] W fun e w' => e = .returned (partV (some (s1, j1))) ∧ Below W.heap.size W w') := Lib.hid fun W hb => by
    have := refPart1_c A n cap l j0 W ((h.below hb).more hb.size) hm (by omega)
    rwa [show partOut [101, 110, 99, 111, 100, 105, 110, 103] encB l j0 = some (s1, j1) from ho1] at this
  have P2 : Hid (∀ W, Below w.heap.size w W → Calls Tryd.prog 73 #[.slice A n cap, .int .i64 (j1 : Nat), .int .i64 2] W fun e w' => e = .returned (partV (some ([], j1))) ∧ Below W.heap.size W w') := Lib.hid fun W hb => by
    have := refPart2_c A n cap l j1 W ((h.below hb).more hb.size) hm (by omega)
    rwa [show partOut [115, 116, 97, 110, 100, 97, 108, 111, 110, 101] aloneB l j1 = some ([], j1) from ho2] at this
  have CB : Hid (∀ W, Below w.heap.size w W → Calls Tryd.prog 74 #[.slice A n cap, .int .i64 (j1 : Nat)] W fun e w' => e = .returned (.int .i64 (blankTo l j1)) ∧ W = w') := Lib.hid fun W hb => refBlanks_c A n cap l j1 _ W (h.below hb) (by omega) (by omega)
  have hbl := blankTo_le l j1 (by omega)
  have CA : Hid (∀ W, Below w.heap.size w W → Calls Tryd.prog 75 #[.slice A n cap, .int .i64 (blankTo l j1 : Int), .string ⟨#[63, 62]⟩] W fun e w' => e = .returned (.bool false) ∧ W = w') := Lib.hid fun W hb => by
    have := refAt8_c A n cap l (blankTo l j1) [63, 62] _ W (h.below hb) (by simp) (by omega) (by simp) (by omega)
    rwa [ht] at this
  have hbi : (blankTo l j1 : Int) ≤ 40000 := by omega
  generalize blankTo l j1 = bt at *
  unfold partV at P0 P1 P2
  have HJ := Lib.hid hJ
  have hk' : ¬ (n : Int) < (k : Int) := by omega
  have hk0 : (0 : Int) ≤ (k : Int) := by omega
  have hk1 : (k : Int) ≤ 40000 := by omega
  have e0 : ((j0 : Int) == (k : Int) + 5) = false := by simp; omega
  have g0 : ¬ (j0 : Int) < 0 := by omega
  have e1 : ((j1 : Int) == (j0 : Int)) = false := by simp; omega
  have g1 : ¬ (j1 : Int) < 0 := by omega
  clear hi hu h hx hb hJ hln hkl ho0 ho1 ho2 hlt0 hle0 hlt1 hle1 ht hbl
  go_enter Tryd.func45, Tryd.ntmps45
  go_wp2_with fail
  refine (C1.out).mono ?_
  rintro e wq ⟨rfl, rfl⟩
  go_wp2
  refine wp_loop_rounds 4 ?_
  rw [rounds_succ]
  go_wp2_with fail
  refine (P0.out _ HJ.out.1).mono ?_
  rintro e w1 ⟨rfl, hb1⟩
  have J0a := Lib.hid (HJ.out.kept hb1)
  clear hb1
  have z0 := cell_of 1 J0a.out.2.2.2
  have y0 := free_of 1 J0a.out.2.2.2
  have J0b : Hid (DJ w (w1.setCell ⟨w.heap.size + 1, 1, none⟩ (.string ⟨s0.toArray⟩)) #[.bool false, .string ⟨#[]⟩, .string ⟨#[]⟩, .string ⟨#[]⟩] #[.bool true, .string ⟨s0.toArray⟩, .string ⟨#[]⟩, .string ⟨#[]⟩]) := Lib.hid (J0a.out.set 1 (.string ⟨s0.toArray⟩))
  go_wp2
  clear z0 y0
  generalize w1.setCell ⟨w.heap.size + 1, 1, none⟩ (.string ⟨s0.toArray⟩) = v1 at *
  rw [rounds_succ]
  go_wp2_with fail
  refine (P1.out _ J0b.out.1).mono ?_
  rintro e w2 ⟨rfl, hb2⟩
  have J1a := Lib.hid (J0b.out.kept hb2)
  clear hb2
  have z1 := cell_of 2 J1a.out.2.2.2
  have y1 := free_of 2 J1a.out.2.2.2
  have J1b : Hid (DJ w (w2.setCell ⟨w.heap.size + 1, 2, none⟩ (.string ⟨s1.toArray⟩)) #[.bool false, .string ⟨#[]⟩, .string ⟨#[]⟩, .string ⟨#[]⟩] #[.bool true, .string ⟨s0.toArray⟩, .string ⟨s1.toArray⟩, .string ⟨#[]⟩]) := Lib.hid (J1a.out.set 2 (.string ⟨s1.toArray⟩))
  go_wp2
  clear z1 y1
  generalize w2.setCell ⟨w.heap.size + 1, 2, none⟩ (.string ⟨s1.toArray⟩) = v2 at *
  rw [rounds_succ]
  go_wp2_with fail
  refine (P2.out _ J1b.out.1).mono ?_
  rintro e w3 ⟨rfl, hb3⟩
  have J2a := Lib.hid (J1b.out.kept hb3)
  clear hb3
  have z2 := cell_of 3 J2a.out.2.2.2
  have y2 := free_of 3 J2a.out.2.2.2
  have J2b : Hid (DJ w (w3.setCell ⟨w.heap.size + 1, 3, none⟩ (.string ⟨#[]⟩)) #[.bool false, .string ⟨#[]⟩, .string ⟨#[]⟩, .string ⟨#[]⟩] #[.bool true, .string ⟨s0.toArray⟩, .string ⟨s1.toArray⟩, .string ⟨#[]⟩]) := Lib.hid (J2a.out.set 3 (.string ⟨#[]⟩))
  go_wp2
  clear z2 y2
  generalize w3.setCell ⟨w.heap.size + 1, 3, none⟩ (.string ⟨#[]⟩) = v3 at *
  rw [rounds_succ]
  go_wp2_with fail
  refine (CB.out _ J2b.out.1).mono ?_
  rintro e wq ⟨rfl, rfl⟩
  go_wp2_with fail
  refine (CA.out _ J2b.out.1).mono ?_
  rintro e wq ⟨rfl, rfl⟩
  have JF := Lib.hid (J2b.out.row #[.bool false, .string ⟨#[]⟩, .string ⟨#[]⟩, .string ⟨#[]⟩])
  go_wp2_with (refine wpList_store_row rfl _ _ _ rfl w.heap.size #[.bool false, .string ⟨#[]⟩, .string ⟨#[]⟩, .string ⟨#[]⟩] rfl rfl _ _ J2b.out.2.2.1 (by kernel_rfl) rfl (by kernel_rfl) ?_)
  (try simp only [Exit.inBlock, Exit.then])
  exact bodyPost_ret (results_cell3 rfl _ _ w.heap.size _ _ _ _ rfl JF.out.2.2.1 HU.out.2 rfl HU.out.1) rfl ⟨rfl, JF.out.1⟩
set_option maxRecDepth 100000 in
set_option maxHeartbeats 8000000 in
theorem refRead_f_found_found_found_yes (A : Option Addr) (n cap : Nat) (l : List UInt8) (k : Nat) (w : World) (h : Byt w w.heap.size A n cap l) (hm : n ≤ 40000) (hk : k ≤ n) (hx : hasX l k = true) (s0 : List UInt8) (j0 : Nat) (ho0 : partOut verW verB l (k + 5) = some (s0, j0)) (hlt0 : (k + 5) < j0) (hle0 : j0 ≤ n) (s1 : List UInt8) (j1 : Nat) (ho1 : partOut encW encB l j0 = some (s1, j1)) (hlt1 : j0 < j1) (hle1 : j1 ≤ n) (s2 : List UInt8) (j2 : Nat) (ho2 : partOut aloneW aloneB l j1 = some (s2, j2)) (hlt2 : j1 < j2) (hle2 : j2 ≤ n) (ht : [63, 62].isPrefixOf (l.drop (blankTo l j2)) = true) :
    Calls Tryd.prog 45 #[.slice A n cap, .int .i64 k, .bool false] w fun e w' => e = .returned (declV (⟨true, s0, s1, s2⟩, blankTo l j2 + 2, 0)) ∧ Below w.heap.size w w' := by
  have hb := Below.alloc (Below.refl w.heap.size w) (Nat.le_refl _) (.cells #[.bool false, .string ⟨#[]⟩, .string ⟨#[]⟩, .string ⟨#[]⟩] 67)
  have hln := h.length
  have hkl := hasX_le l k n hln hx
  have hJ := dj_start w
  have hi : (Tryd.prog.info? 67).map (·.size) = some 4 := by kernel_rfl
  obtain ⟨d, hu⟩ := isStruct_of (P := Tryd.prog) (t := 67) (by kernel_rfl)
  have HU := Lib.hid (And.intro hi hu)
  have C1 := Lib.hid (refHas_in A n cap l k _ _ (h.below hb) (by omega) hk)
  rw [hx] at C1
  have P0 : Hid (∀ W, Below w.heap.size w W → Calls Tryd.prog 73 #[.slice A n cap, .int .i64 ((k + 5) : Nat), .int .i64 0] W fun e w' => e = .returned (partV (some (s0, j0))) ∧ Below W.heap.size W w') := Lib.hid fun W hb => by
    have := refPart0_c A n cap l (k + 5) W ((h.below hb).more hb.size) hm (by omega)
    rwa [show partOut [118, 101, 114, 115, 105, 111, 110] verB l (k + 5) = some (s0, j0) from ho0] at this
  rw [show ((k + 5 : Nat) : Int) = (k : Int) + 5 by omega] at P0
  have P1 : Hid (∀ W, Below w.heap.size w W → Calls Tryd.prog 73 #[.slice A n cap, .int .i64 (j0 : Nat), .int .i64 1] W fun e w' => e = .returned (partV (some (s1, j1))) ∧ Below W.heap.size W w') := Lib.hid fun W hb => by
    have := refPart1_c A n cap l j0 W ((h.below hb).more hb.size) hm (by omega)
    rwa [show partOut [101, 110, 99, 111, 100, 105, 110, 103] encB l j0 = some (s1, j1) from ho1] at this
  have P2 : Hid (∀ W, Below w.heap.size w W → Calls Tryd.prog 73 #[.slice A n cap, .int .i64 (j1 : Nat), .int .i64 2] W fun e w' => e = .returned (partV (some (s2, j2))) ∧ Below W.heap.size W w') := Lib.hid fun W hb => by
    have := refPart2_c A n cap l j1 W ((h.below hb).more hb.size) hm (by omega)
    rwa [show partOut [115, 116, 97, 110, 100, 97, 108, 111, 110, 101] aloneB l j1 = some (s2, j2) from ho2] at this
  have CB : Hid (∀ W, Below w.heap.size w W → Calls Tryd.prog 74 #[.slice A n cap, .int .i64 (j2 : Nat)] W fun e w' => e = .returned (.int .i64 (blankTo l j2)) ∧ W = w') := Lib.hid fun W hb => refBlanks_c A n cap l j2 _ W (h.below hb) (by omega) (by omega)
  have hbl := blankTo_le l j2 (by omega)
  have CA : Hid (∀ W, Below w.heap.size w W → Calls Tryd.prog 75 #[.slice A n cap, .int .i64 (blankTo l j2 : Int), .string ⟨#[63, 62]⟩] W fun e w' => e = .returned (.bool true) ∧ W = w') := Lib.hid fun W hb => by
    have := refAt8_c A n cap l (blankTo l j2) [63, 62] _ W (h.below hb) (by simp) (by omega) (by simp) (by omega)
    rwa [ht] at this
  have hbi : (blankTo l j2 : Int) ≤ 40000 := by omega
  generalize blankTo l j2 = bt at *
  unfold partV at P0 P1 P2
  have HJ := Lib.hid hJ
  have hk' : ¬ (n : Int) < (k : Int) := by omega
  have hk0 : (0 : Int) ≤ (k : Int) := by omega
  have hk1 : (k : Int) ≤ 40000 := by omega
  have e0 : ((j0 : Int) == (k : Int) + 5) = false := by simp; omega
  have g0 : ¬ (j0 : Int) < 0 := by omega
  have e1 : ((j1 : Int) == (j0 : Int)) = false := by simp; omega
  have g1 : ¬ (j1 : Int) < 0 := by omega
  have e2 : ((j2 : Int) == (j1 : Int)) = false := by simp; omega
  have g2 : ¬ (j2 : Int) < 0 := by omega
  clear hi hu h hx hb hJ hln hkl ho0 ho1 ho2 hlt0 hle0 hlt1 hle1 hlt2 hle2 ht hbl
  go_enter Tryd.func45, Tryd.ntmps45
  go_wp2_with fail
  refine (C1.out).mono ?_
  rintro e wq ⟨rfl, rfl⟩
  go_wp2
  refine wp_loop_rounds 4 ?_
  rw [rounds_succ]
  go_wp2_with fail
  refine (P0.out _ HJ.out.1).mono ?_
  rintro e w1 ⟨rfl, hb1⟩
  have J0a := Lib.hid (HJ.out.kept hb1)
  clear hb1
  have z0 := cell_of 1 J0a.out.2.2.2
  have y0 := free_of 1 J0a.out.2.2.2
  have J0b : Hid (DJ w (w1.setCell ⟨w.heap.size + 1, 1, none⟩ (.string ⟨s0.toArray⟩)) #[.bool false, .string ⟨#[]⟩, .string ⟨#[]⟩, .string ⟨#[]⟩] #[.bool true, .string ⟨s0.toArray⟩, .string ⟨#[]⟩, .string ⟨#[]⟩]) := Lib.hid (J0a.out.set 1 (.string ⟨s0.toArray⟩))
  go_wp2
  clear z0 y0
  generalize w1.setCell ⟨w.heap.size + 1, 1, none⟩ (.string ⟨s0.toArray⟩) = v1 at *
  rw [rounds_succ]
  go_wp2_with fail
  refine (P1.out _ J0b.out.1).mono ?_
  rintro e w2 ⟨rfl, hb2⟩
  have J1a := Lib.hid (J0b.out.kept hb2)
  clear hb2
  have z1 := cell_of 2 J1a.out.2.2.2
  have y1 := free_of 2 J1a.out.2.2.2
  have J1b : Hid (DJ w (w2.setCell ⟨w.heap.size + 1, 2, none⟩ (.string ⟨s1.toArray⟩)) #[.bool false, .string ⟨#[]⟩, .string ⟨#[]⟩, .string ⟨#[]⟩] #[.bool true, .string ⟨s0.toArray⟩, .string ⟨s1.toArray⟩, .string ⟨#[]⟩]) := Lib.hid (J1a.out.set 2 (.string ⟨s1.toArray⟩))
  go_wp2
  clear z1 y1
  generalize w2.setCell ⟨w.heap.size + 1, 2, none⟩ (.string ⟨s1.toArray⟩) = v2 at *
  rw [rounds_succ]
  go_wp2_with fail
  refine (P2.out _ J1b.out.1).mono ?_
  rintro e w3 ⟨rfl, hb3⟩
  have J2a := Lib.hid (J1b.out.kept hb3)
  clear hb3
  have z2 := cell_of 3 J2a.out.2.2.2
  have y2 := free_of 3 J2a.out.2.2.2
  have J2b : Hid (DJ w (w3.setCell ⟨w.heap.size + 1, 3, none⟩ (.string ⟨s2.toArray⟩)) #[.bool false, .string ⟨#[]⟩, .string ⟨#[]⟩, .string ⟨#[]⟩] #[.bool true, .string ⟨s0.toArray⟩, .string ⟨s1.toArray⟩, .string ⟨s2.toArray⟩]) := Lib.hid (J2a.out.set 3 (.string ⟨s2.toArray⟩))
  go_wp2
  clear z2 y2
  generalize w3.setCell ⟨w.heap.size + 1, 3, none⟩ (.string ⟨s2.toArray⟩) = v3 at *
  rw [rounds_succ]
  go_wp2_with fail
  refine (CB.out _ J2b.out.1).mono ?_
  rintro e wq ⟨rfl, rfl⟩
  go_wp2_with fail
  refine (CA.out _ J2b.out.1).mono ?_
  rintro e wq ⟨rfl, rfl⟩
  have JF := Lib.hid (J2b.out.row #[.bool true, .string ⟨s0.toArray⟩, .string ⟨s1.toArray⟩, .string ⟨s2.toArray⟩])
  go_wp2_with (first | (refine wpList_load_row rfl _ _ rfl (w.heap.size + 1) rfl _ _ _ _ J2b.out.2.2.2 HU.out.2 rfl HU.out.1 ?_) | (refine wpList_store_row rfl _ _ _ rfl w.heap.size #[.bool true, .string ⟨s0.toArray⟩, .string ⟨s1.toArray⟩, .string ⟨s2.toArray⟩] rfl rfl _ _ J2b.out.2.2.1 (by kernel_rfl) rfl (by kernel_rfl) ?_))
  (try simp only [Exit.inBlock, Exit.then])
  exact bodyPost_ret (results_cell3 rfl _ _ w.heap.size _ _ _ _ rfl JF.out.2.2.1 HU.out.2 rfl HU.out.1) rfl ⟨rfl, JF.out.1⟩
set_option maxRecDepth 100000 in
set_option maxHeartbeats 8000000 in
theorem refRead_f_found_found_found_no (A : Option Addr) (n cap : Nat) (l : List UInt8) (k : Nat) (w : World) (h : Byt w w.heap.size A n cap l) (hm : n ≤ 40000) (hk : k ≤ n) (hx : hasX l k = true) (s0 : List UInt8) (j0 : Nat) (ho0 : partOut verW verB l (k + 5) = some (s0, j0)) (hlt0 : (k + 5) < j0) (hle0 : j0 ≤ n) (s1 : List UInt8) (j1 : Nat) (ho1 : partOut encW encB l j0 = some (s1, j1)) (hlt1 : j0 < j1) (hle1 : j1 ≤ n) (s2 : List UInt8) (j2 : Nat) (ho2 : partOut aloneW aloneB l j1 = some (s2, j2)) (hlt2 : j1 < j2) (hle2 : j2 ≤ n) (ht : [63, 62].isPrefixOf (l.drop (blankTo l j2)) = false) :
    Calls Tryd.prog 45 #[.slice A n cap, .int .i64 k, .bool false] w fun e w' => e = .returned (declV (noDecl, 0, 7)) ∧ Below w.heap.size w w' := by
  have hb := Below.alloc (Below.refl w.heap.size w) (Nat.le_refl _) (.cells #[.bool false, .string ⟨#[]⟩, .string ⟨#[]⟩, .string ⟨#[]⟩] 67)
  have hln := h.length
  have hkl := hasX_le l k n hln hx
  have hJ := dj_start w
  have hi : (Tryd.prog.info? 67).map (·.size) = some 4 := by kernel_rfl
  obtain ⟨d, hu⟩ := isStruct_of (P := Tryd.prog) (t := 67) (by kernel_rfl)
  have HU := Lib.hid (And.intro hi hu)
  have C1 := Lib.hid (refHas_in A n cap l k _ _ (h.below hb) (by omega) hk)
  rw [hx] at C1
  have P0 : Hid (∀ W, Below w.heap.size w W → Calls Tryd.prog 73 #[.slice A n cap, .int .i64 ((k + 5) : Nat), .int .i64 0] W fun e w' => e = .returned (partV (some (s0, j0))) ∧ Below W.heap.size W w') := Lib.hid fun W hb => by
    have := refPart0_c A n cap l (k + 5) W ((h.below hb).more hb.size) hm (by omega)
    rwa [show partOut [118, 101, 114, 115, 105, 111, 110] verB l (k + 5) = some (s0, j0) from ho0] at this
  rw [show ((k + 5 : Nat) : Int) = (k : Int) + 5 by omega] at P0
  have P1 : Hid (∀ W, Below w.heap.size w W → Calls Tryd.prog 73 #[.slice A n cap, .int .i64 (j0 : Nat), .int .i64 1] W fun e w' => e = .returned (partV (some (s1, j1))) ∧ Below W.heap.size W w') := Lib.hid fun W hb => by
    have := refPart1_c A n cap l j0 W ((h.below hb).more hb.size) hm (by omega)
    rwa [show partOut [101, 110, 99, 111, 100, 105, 110, 103] encB l j0 = some (s1, j1) from ho1] at this
  have P2 : Hid (∀ W, Below w.heap.size w W → Calls Tryd.prog 73 #[.slice A n cap, .int .i64 (j1 : Nat), .int .i64 2] W fun e w' => e = .returned (partV (some (s2, j2))) ∧ Below W.heap.size W w') := Lib.hid fun W hb => by
    have := refPart2_c A n cap l j1 W ((h.below hb).more hb.size) hm (by omega)
    rwa [show partOut [115, 116, 97, 110, 100, 97, 108, 111, 110, 101] aloneB l j1 = some (s2, j2) from ho2] at this
  have CB : Hid (∀ W, Below w.heap.size w W → Calls Tryd.prog 74 #[.slice A n cap, .int .i64 (j2 : Nat)] W fun e w' => e = .returned (.int .i64 (blankTo l j2)) ∧ W = w') := Lib.hid fun W hb => refBlanks_c A n cap l j2 _ W (h.below hb) (by omega) (by omega)
  have hbl := blankTo_le l j2 (by omega)
  have CA : Hid (∀ W, Below w.heap.size w W → Calls Tryd.prog 75 #[.slice A n cap, .int .i64 (blankTo l j2 : Int), .string ⟨#[63, 62]⟩] W fun e w' => e = .returned (.bool false) ∧ W = w') := Lib.hid fun W hb => by
    have := refAt8_c A n cap l (blankTo l j2) [63, 62] _ W (h.below hb) (by simp) (by omega) (by simp) (by omega)
    rwa [ht] at this
  have hbi : (blankTo l j2 : Int) ≤ 40000 := by omega
  generalize blankTo l j2 = bt at *
  unfold partV at P0 P1 P2
  have HJ := Lib.hid hJ
  have hk' : ¬ (n : Int) < (k : Int) := by omega
  have hk0 : (0 : Int) ≤ (k : Int) := by omega
  have hk1 : (k : Int) ≤ 40000 := by omega
  have e0 : ((j0 : Int) == (k : Int) + 5) = false := by simp; omega
  have g0 : ¬ (j0 : Int) < 0 := by omega
  have e1 : ((j1 : Int) == (j0 : Int)) = false := by simp; omega
  have g1 : ¬ (j1 : Int) < 0 := by omega
  have e2 : ((j2 : Int) == (j1 : Int)) = false := by simp; omega
  have g2 : ¬ (j2 : Int) < 0 := by omega
  clear hi hu h hx hb hJ hln hkl ho0 ho1 ho2 hlt0 hle0 hlt1 hle1 hlt2 hle2 ht hbl
  go_enter Tryd.func45, Tryd.ntmps45
  go_wp2_with fail
  refine (C1.out).mono ?_
  rintro e wq ⟨rfl, rfl⟩
  go_wp2
  refine wp_loop_rounds 4 ?_
  rw [rounds_succ]
  go_wp2_with fail
  refine (P0.out _ HJ.out.1).mono ?_
  rintro e w1 ⟨rfl, hb1⟩
  have J0a := Lib.hid (HJ.out.kept hb1)
  clear hb1
  have z0 := cell_of 1 J0a.out.2.2.2
  have y0 := free_of 1 J0a.out.2.2.2
  have J0b : Hid (DJ w (w1.setCell ⟨w.heap.size + 1, 1, none⟩ (.string ⟨s0.toArray⟩)) #[.bool false, .string ⟨#[]⟩, .string ⟨#[]⟩, .string ⟨#[]⟩] #[.bool true, .string ⟨s0.toArray⟩, .string ⟨#[]⟩, .string ⟨#[]⟩]) := Lib.hid (J0a.out.set 1 (.string ⟨s0.toArray⟩))
  go_wp2
  clear z0 y0
  generalize w1.setCell ⟨w.heap.size + 1, 1, none⟩ (.string ⟨s0.toArray⟩) = v1 at *
  rw [rounds_succ]
  go_wp2_with fail
  refine (P1.out _ J0b.out.1).mono ?_
  rintro e w2 ⟨rfl, hb2⟩
  have J1a := Lib.hid (J0b.out.kept hb2)
  clear hb2
  have z1 := cell_of 2 J1a.out.2.2.2
  have y1 := free_of 2 J1a.out.2.2.2
  have J1b : Hid (DJ w (w2.setCell ⟨w.heap.size + 1, 2, none⟩ (.string ⟨s1.toArray⟩)) #[.bool false, .string ⟨#[]⟩, .string ⟨#[]⟩, .string ⟨#[]⟩] #[.bool true, .string ⟨s0.toArray⟩, .string ⟨s1.toArray⟩, .string ⟨#[]⟩]) := Lib.hid (J1a.out.set 2 (.string ⟨s1.toArray⟩))
  go_wp2
  clear z1 y1
  generalize w2.setCell ⟨w.heap.size + 1, 2, none⟩ (.string ⟨s1.toArray⟩) = v2 at *
  rw [rounds_succ]
  go_wp2_with fail
  refine (P2.out _ J1b.out.1).mono ?_
  rintro e w3 ⟨rfl, hb3⟩
  have J2a := Lib.hid (J1b.out.kept hb3)
  clear hb3
  have z2 := cell_of 3 J2a.out.2.2.2
  have y2 := free_of 3 J2a.out.2.2.2
  have J2b : Hid (DJ w (w3.setCell ⟨w.heap.size + 1, 3, none⟩ (.string ⟨s2.toArray⟩)) #[.bool false, .string ⟨#[]⟩, .string ⟨#[]⟩, .string ⟨#[]⟩] #[.bool true, .string ⟨s0.toArray⟩, .string ⟨s1.toArray⟩, .string ⟨s2.toArray⟩]) := Lib.hid (J2a.out.set 3 (.string ⟨s2.toArray⟩))
  go_wp2
  clear z2 y2
  generalize w3.setCell ⟨w.heap.size + 1, 3, none⟩ (.string ⟨s2.toArray⟩) = v3 at *
  rw [rounds_succ]
  go_wp2_with fail
  refine (CB.out _ J2b.out.1).mono ?_
  rintro e wq ⟨rfl, rfl⟩
  go_wp2_with fail
  refine (CA.out _ J2b.out.1).mono ?_
  rintro e wq ⟨rfl, rfl⟩
  have JF := Lib.hid (J2b.out.row #[.bool false, .string ⟨#[]⟩, .string ⟨#[]⟩, .string ⟨#[]⟩])
  go_wp2_with (refine wpList_store_row rfl _ _ _ rfl w.heap.size #[.bool false, .string ⟨#[]⟩, .string ⟨#[]⟩, .string ⟨#[]⟩] rfl rfl _ _ J2b.out.2.2.1 (by kernel_rfl) rfl (by kernel_rfl) ?_)
  (try simp only [Exit.inBlock, Exit.then])
  exact bodyPost_ret (results_cell3 rfl _ _ w.heap.size _ _ _ _ rfl JF.out.2.2.1 HU.out.2 rfl HU.out.1) rfl ⟨rfl, JF.out.1⟩
end Go.Proofs.YtljmpghijlibaaaDoor
