/- sweep.Document, the page's example. -/
import Derived.Test.YtmclngahdklfkaaGreatDoorRows
import Derived.Test.YtmclngahdklfkaaGreatDoorQX
import Derived.WalkKit
import Derived.ProofKit
import Derived.OpenShut
import Derived.ShutString
import Derived.ChangeOld
import Derived.Below
import Derived.BigQuiet
import Derived.Deep.QuietTactic
import Derived.Lib.Hide
import Derived.Deep.RegionHeld3
import Derived.Lib.SlBytesConst
import Derived.Laws.CopyOwn
import Derived.Laws.CopyRow
import Derived.Lib.Bytes
import Derived.Deep.LoopGhost
import Derived.Deep.DeepFit
import Derived.Deep.DeepMust
import Derived.WalkSpells
import Derived.WalkLawsBesides
import Derived.Maps.OwnOps
import Derived.Maps.OwnSet
import Derived.Maps.Views
import Derived.Laws.EntriesVeiled
import Derived.Laws.Rows
import Derived.Maps.AppendAt
import Derived.Lib.SmallJoins
import Derived.Deep.AppendLies
import Derived.Deep.RegionLaw
import Derived.Deep.RegionWith
import Derived.Deep.RegionWith
import Derived.Test.YtmclngahdklfkaaGreatDoorQ1
import Derived.Test.YtmclngahdklfkaaGreatDoorQ6
import Derived.Test.YtmclngahdklfkaaGreatDoorQ2
import Derived.Test.YtmclngahdklfkaaGreatDoorQ4
import Derived.Test.YtmclngahdklfkaaGreatDoorQ5
import Derived.Test.YtmclngahdklfkaaGreatDoorQ8
import Derived.Test.YtmclngahdklfkaaGreatDoorQ9
import Derived.Test.YtmclngahdklfkaaGreatDoorQ10
import Derived.Test.YtmclngahdklfkaaGreatDoorQ11
import Derived.Test.YtmclngahdklfkaaGreatDoorQ12
import Derived.Test.YtmclngahdklfkaaGreatDoorQ13
import Derived.Test.YtmclngahdklfkaaGreatDoorQ14
import Derived.Test.YtmclngahdklfkaaGreatDoorQ15
import Derived.Test.YtmclngahdklfkaaGreatDoorQ16
import Derived.Test.YtmclngahdklfkaaGreatDoorQ17
import Derived.Test.YtmclngahdklfkaaGreatDoorQ18
import Derived.Test.YtmclngahdklfkaaGreatDoorQ19
import Derived.Test.YtmclngahdklfkaaGreatDoorQ20
import Derived.Test.YtmclngahdklfkaaGreatDoorQ21
import Derived.Test.YtmclngahdklfkaaGreatDoorQ24
import Derived.Test.YtmclngahdklfkaaGreatDoorQ22
import Derived.Test.YtmclngahdklfkaaGreatDoorQ23
import Derived.Test.YtmclngahdklfkaaGreatDoorQ7
import Derived.Test.YtmclngahdklfkaaGreatDoorQ25
import Derived.Test.YtmclngahdklfkaaGreatDoorTok9
import Derived.Test.YtmclngahdklfkaaGreatDoorTok10
import Derived.Test.YtmclngahdklfkaaGreatDoorTok10b
import Derived.Test.YtmclngahdklfkaaGreatDoorTokQ
import Derived.Test.YtmclngahdklfkaaGreatDoorSwP
import Derived.Test.YtmclngahdklfkaaGreatDoorSw1
import Derived.Test.YtmclngahdklfkaaGreatDoorSw2
import Derived.Test.YtmclngahdklfkaaGreatDoorSw3
import Derived.Test.YtmclngahdklfkaaGreatDoorSw4
import Derived.Test.YtmclngahdklfkaaGreatDoorSw5
import Derived.Test.YtmclngahdklfkaaGreatDoorSw6
import Derived.Test.YtmclngahdklfkaaGreatDoorSw7
namespace Go.Proofs.YtmclngahdklfkaaGreatDoor
open Go.ChangeShapes Go.WideShapes Go.ChangeAt Go.RowKit
set_option linter.unusedVariables false
theorem blankR_c (s : List UInt8) (W : World) (hs : s.length ≤ 500000) : Calls Tryz.prog 22 #[.string ⟨s.toArray⟩] W fun e w' => e = .returned (.bool (blankB s)) ∧ Below W.heap.size W w' := by
  have cv := run_toBytes W s
  have hb1 := Go.Joins.below_bytesWorld W.heap.size W 5 ⟨s.toArray⟩ (Nat.le_refl _)
  have C1 := Lib.hid (refBlanks_c _ _ _ _ 0 _ _ (byt_new W s (by omega)) (by omega) (Nat.zero_le _))
  have HB := Lib.hid hb1
  have hE : ((blankTo s 0 : Int) == (s.length : Int)) = blankB s := by
    unfold blankB
    rw [Bool.eq_iff_iff]
    simp
    omega
  have HE := Lib.hid hE
  generalize blankTo s 0 = b at *
  clear hb1 hE
  go_enter Tryz.func22, Tryz.ntmps22
  go_wp2_with fail
  refine C1.out.mono ?_
  rintro e wq ⟨rfl, hwq⟩
  subst hwq
  go_wp2
  go_ret
  exact ⟨by simp [← HE.out], HB.out⟩
set_option maxRecDepth 100000 in
set_option maxHeartbeats 4000000 in
theorem document_c (A : Option Addr) (n cap : Nat) (l : List UInt8) (at_ : Int) (w : World) (h : Byt w w.heap.size A n cap l) (hW : W11 w) (hm : n ≤ 40000) :
    Calls Tryz.prog 19 #[.slice A n cap, .int .i64 at_] w fun e w' => AllPost (overAt l at_ true) w e w' := by
  unfold overAt
  rw [h.length]
  by_cases ha : at_ < 0 ∨ (n : Int) < at_
  · rw [if_pos ha]
    clear h hW
    by_cases h0 : at_ < 0
    · have hd : decide (at_ < 0) = true := by simpa using h0
      clear ha
      go_enter Tryz.func19, Tryz.ntmps19
      go_wp2
      go_ret3
      exact AllPost.bad rfl (Below.refl _ _)
    · have h1 : (n : Int) < at_ := by omega
      clear ha
      go_enter Tryz.func19, Tryz.ntmps19
      go_wp2
      go_ret3
      exact AllPost.bad rfl (Below.refl _ _)
  · rw [if_neg ha]
    obtain ⟨k, rfl⟩ : ∃ k : Nat, at_ = (k : Int) := ⟨at_.toNat, by omega⟩
    rw [Int.toNat_natCast]
    have ka := (Below.refl w.heap.size w).alloc (Nat.le_refl _) (.cells #[.slice none 0 0, .int .i64 0, .bool true] 78)
    have C := over_c w.heap.size true A n cap l k w (w.alloc (.cells #[.slice none 0 0, .int .i64 0, .bool true] 78)) rfl ka (hp_new _ _) ((h.below ka).more ka.size) (fun h0 b i hA => by
      obtain ⟨b', o, e, hb, _⟩ := h.at_ h0
      rw [hA] at e
      cases e
      exact ⟨by omega, by rw [World.size_alloc]; omega⟩) hW hm (by omega)
    rw [h.length] at C
    have hk0 : ¬ (k : Int) < 0 := by omega
    have hk1 : ¬ (n : Int) < (k : Int) := by omega
    have CC := Lib.hid C
    generalize overR l true (n + 1) [] [] false k = R at *
    obtain ⟨L, t, x⟩ := R
    clear h hW ka C ha
    go_enter Tryz.func19, Tryz.ntmps19
    go_wp2_with fail
    refine CC.out.mono ?_
    rintro e w1 ⟨A1, n1, c1, vs, rfl, hv, hr, hb⟩
    have HF := Lib.hid (And.intro hv (And.intro hr hb))
    clear hv hr hb
    go_wp2
    go_ret3
    exact ⟨A1, n1, c1, vs, rfl, HF.out.1, HF.out.2.1, HF.out.2.2⟩
set_option maxRecDepth 100000 in
set_option maxHeartbeats 8000000 in
theorem live30_c (w : World) (hW : W11 w) : Calls Tryz.prog 18 #[] w fun e w' => e = .returned (.bool true) ∧ Below w.heap.size w w' := by
  have kc := fun (w : World) (C : Array Value) (n c : Nat) => Lib.run_convert_bytes_const (P := Tryz.prog) w 22 5 C n c Tryz.underlying22 Tryz.underlying5
  have C1 : Hid (Calls Tryz.prog 19 #[.slice (some ⟨w.heap.size, 0, none⟩) 8 8, .int .i64 0] (w.alloc (.cells #[.int .u8 60, .int .u8 97, .int .u8 62, .int .u8 120, .int .u8 60, .int .u8 47, .int .u8 97, .int .u8 62] 5 (8, 9))) fun e w' => ∃ A c, e = .returned (.tuple #[.slice A 3 c, .int .i64 8, .int .i64 0]) ∧ Below w.heap.size w w') := Lib.hid (by
    have k1 := alloc_const w [60, 97, 62, 120, 60, 47, 97, 62] (8, 9) (by decide)
    have := document_c _ _ _ _ 0 _ (k1.2.more (by simp)) (hW.below k1.1) (by decide)
    rw [show overAt [60, 97, 62, 120, 60, 47, 97, 62] 0 true = ([⟨7, 0, 3, [97], [], [], 0⟩, ⟨1, 3, 4, [], [120], [], 0⟩, ⟨9, 4, 8, [97], [], [], 0⟩], 8, 0) by kernel_rfl] at this
    refine this.mono fun e w' ⟨A, n, c, vs, he, hv, hr, hb⟩ => ?_
    have hn : n = 3 := by
      have := congrArg List.length hv
      rw [List.length_map, hr.len] at this
      exact this
    subst hn
    exact ⟨A, c, he, k1.1.trans (hb.mono k1.1.size)⟩)
  have C2 : Hid (∀ W, Below w.heap.size w W → Calls Tryz.prog 19 #[.slice (some ⟨W.heap.size, 0, none⟩) 8 8, .int .i64 0] (W.alloc (.cells #[.int .u8 60, .int .u8 97, .int .u8 47, .int .u8 62, .int .u8 60, .int .u8 98, .int .u8 47, .int .u8 62] 5 (8, 9))) fun e w' => ∃ A n c, e = .returned (.tuple #[.slice A n c, .int .i64 4, .int .i64 7]) ∧ Below W.heap.size W w') := Lib.hid fun W hb => by
    have k1 := alloc_const W [60, 97, 47, 62, 60, 98, 47, 62] (8, 9) (by decide)
    have := document_c _ _ _ _ 0 _ (k1.2.more (by simp)) (hW.below (hb.trans (k1.1.mono hb.size))) (by decide)
    rw [show overAt [60, 97, 47, 62, 60, 98, 47, 62] 0 true = ([], 4, 7) by kernel_rfl] at this
    exact this.mono fun e w' ⟨A, n, c, vs, he, hv, hr, hb⟩ => ⟨A, n, c, he, k1.1.trans (hb.mono k1.1.size)⟩
  clear hW
  go_enter Tryz.func18, Tryz.ntmps18
  go_wp2_with fail
  refine C1.out.mono ?_
  rintro e w1 ⟨A1, c1, rfl, B1⟩
  have HB1 := Lib.hid B1
  go_wp2_with fail
  clear kc
  refine (C2.out _ B1).mono ?_
  rintro e w2 ⟨A2, n2, c2, rfl, b2⟩
  have HB2 := Lib.hid (HB1.out.trans (b2.mono HB1.out.size))
  clear b2 B1
  go_wp2
  go_ret
  exact ⟨rfl, HB2.out⟩
end Go.Proofs.YtmclngahdklfkaaGreatDoor
