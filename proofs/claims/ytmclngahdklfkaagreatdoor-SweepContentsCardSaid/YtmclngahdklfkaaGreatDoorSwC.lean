/- The law SweepContents. -/
import Derived.Test.YtmclngahdklfkaaGreatDoorRows
import Derived.WalkKit
import Derived.ProofKit
import Derived.OpenShut
import Derived.ShutString
import Derived.ChangeOld
import Derived.Below
import Derived.BigQuiet
import Derived.Deep.QuietTactic
import Derived.Lib.Hide
import Derived.Deep.RegionHeld3
import Derived.Lib.SlBytesConst
import Derived.Laws.CopyOwn
import Derived.Laws.CopyRow
import Derived.Lib.Bytes
import Derived.Deep.LoopGhost
import Derived.Deep.DeepFit
import Derived.Deep.DeepMust
import Derived.WalkSpells
import Derived.WalkLawsBesides
import Derived.Maps.OwnOps
import Derived.Maps.OwnSet
import Derived.Maps.Views
import Derived.Laws.EntriesVeiled
import Derived.Laws.Rows
import Derived.Maps.AppendAt
import Derived.Lib.SmallJoins
import Derived.Deep.AppendLies
import Derived.Deep.RegionLaw
import Derived.Deep.RegionWith
import Derived.Deep.RegionWith
import Derived.Deep.AppendLies
import Derived.Deep.RegionLaw
import Derived.Test.YtmclngahdklfkaaGreatDoorQ1
import Derived.Test.YtmclngahdklfkaaGreatDoorQ7
import Derived.Test.YtmclngahdklfkaaGreatDoorQ3
import Derived.Test.YtmclngahdklfkaaGreatDoorQ2
import Derived.Test.YtmclngahdklfkaaGreatDoorQ5
import Derived.Test.YtmclngahdklfkaaGreatDoorQ6
import Derived.Test.YtmclngahdklfkaaGreatDoorQ8
import Derived.Test.YtmclngahdklfkaaGreatDoorQ9
import Derived.Test.YtmclngahdklfkaaGreatDoorQ10
import Derived.Test.YtmclngahdklfkaaGreatDoorQ11
import Derived.Test.YtmclngahdklfkaaGreatDoorQ12
import Derived.Test.YtmclngahdklfkaaGreatDoorQ13
import Derived.Test.YtmclngahdklfkaaGreatDoorQ14
import Derived.Test.YtmclngahdklfkaaGreatDoorQ15
import Derived.Test.YtmclngahdklfkaaGreatDoorQ16
import Derived.Test.YtmclngahdklfkaaGreatDoorQ17
import Derived.Test.YtmclngahdklfkaaGreatDoorQ18
import Derived.Test.YtmclngahdklfkaaGreatDoorQ19
import Derived.Test.YtmclngahdklfkaaGreatDoorQ20
import Derived.Test.YtmclngahdklfkaaGreatDoorSwD
namespace Go.Proofs.YtmclngahdklfkaaGreatDoor
open Go.ChangeShapes Go.WideShapes Go.ChangeAt Go.RowKit
set_option linter.unusedVariables false
set_option maxRecDepth 100000 in
set_option maxHeartbeats 4000000 in
theorem content_c (s : List UInt8) (w : World) (hW : W11 w) (hm : s.length ≤ 40000) :
    Calls Tryz.prog 23 #[.string ⟨s.toArray⟩] w fun e w' => AllPost (overR s false (s.length + 1) [] [] false 0) w e w' := by
  have ka := (Below.refl w.heap.size w).alloc (Nat.le_refl _) (.cells #[.slice none 0 0, .int .i64 0, .bool false] 78)
  have cv := run_toBytes (w.alloc (.cells #[.slice none 0 0, .int .i64 0, .bool false] 78)) s
  have hq := hp_new w (.cells #[.slice none 0 0, .int .i64 0, .bool false] 78)
  have hz : (w.alloc (.cells #[.slice none 0 0, .int .i64 0, .bool false] 78)).heap.size = w.heap.size + 1 := World.size_alloc _ _
  obtain ⟨V, hV⟩ : ∃ V, w.alloc (.cells #[.slice none 0 0, .int .i64 0, .bool false] 78) = V := ⟨_, rfl⟩
  rw [hV] at ka cv hq hz
  have kb := ka.trans ((Lib.bytesWorld_below V 5 ⟨s.toArray⟩).mono ka.size)
  have C := over_c w.heap.size false _ _ _ s 0 w (Lib.bytesWorld V 5 ⟨s.toArray⟩) rfl kb ((Lib.bytesWorld_at_old V 5 ⟨s.toArray⟩ _ (by omega)).trans hq) ((byt_new V s (by omega)).more (Nat.le_of_eq (Lib.bytesWorld_size _ _ _).symm)) (fun _ b i hA => by
    cases hA
    exact ⟨by omega, by rw [Lib.bytesWorld_size]; omega⟩) hW hm (Nat.zero_le _)
  rw [hz] at C cv
  rw [← hV] at C cv
  have CC := Lib.hid C
  generalize overR s false (s.length + 1) [] [] false 0 = R at *
  obtain ⟨L, t, x⟩ := R
  clear hW ka C kb hq hz hV
  go_enter Tryz.func23, Tryz.ntmps23
  go_wp2_with fail
  refine CC.out.mono ?_
  rintro e w1 ⟨A1, n1, c1, vs, rfl, hv, hr, hb⟩
  have HF := Lib.hid (And.intro hv (And.intro hr hb))
  clear hv hr hb
  go_wp2
  go_ret3
  exact ⟨A1, n1, c1, vs, rfl, HF.out.1, HF.out.2.1, HF.out.2.2⟩
set_option maxRecDepth 100000 in
set_option maxHeartbeats 8000000 in
theorem sweepContents_walk (sb : ByteArray) (w : World) (hW : W11 w) :
    Calls Tryz.prog 7 #[.string sb] w fun e w' => e = .returned (.bool true) ∧ Below w.heap.size w w' := by
  obtain ⟨s, rfl⟩ : ∃ l : List UInt8, sb = ⟨l.toArray⟩ := ⟨sb.data.toList, by simp⟩
  have LV : Hid (∀ W, Below w.heap.size w W → Calls Tryz.prog 18 #[] W fun e w' => e = .returned (.bool true) ∧ Below W.heap.size W w') := Lib.hid fun W hb => live30_c W (hW.below hb)
  have hsz : (⟨s.toArray⟩ : ByteArray).size = s.length := by simp [ByteArray.size]
  by_cases hn : s.length ≤ 500
  · have hn' : ¬ (500 : Int) < (s.length : Int) := by omega
    have C1 := Lib.hid (content_c s w hW (by omega))
    have cv := fun W => run_toBytes W s
    have C2 : Hid (∀ W, Below w.heap.size w W → Calls Tryz.prog 20 #[.slice (some ⟨W.heap.size, 0, none⟩) s.length (grownCap W s.length 0 5), .int .i64 0, .bool false] (Lib.bytesWorld W 5 ⟨s.toArray⟩) fun e w' => AllPost (overR s false (s.length + 1) [] [] false 0) W e w') := Lib.hid fun W hb => by
      have := refOver_c false _ _ _ s 0 (Lib.bytesWorld W 5 ⟨s.toArray⟩) ((byt_new W s (by omega)).more (Nat.le_of_eq (Lib.bytesWorld_size _ _ _).symm)) (by omega) (Nat.zero_le _)
      exact this.mono fun e w' ⟨A, n, c, vs, he, hv, hr, hb⟩ => ⟨A, n, c, vs, he, hv, hr, (Lib.bytesWorld_below W 5 ⟨s.toArray⟩).trans (hb.mono (Lib.bytesWorld_below W 5 ⟨s.toArray⟩).size)⟩
    have C3 : Hid (∀ W, Calls Tryz.prog 24 #[.string ⟨s.toArray⟩] W fun e w' => e = .returned (.bool (blankB s)) ∧ Below W.heap.size W w') := Lib.hid fun W => blankB_c s W (by omega)
    have C4 : Hid (∀ W, Calls Tryz.prog 22 #[.string ⟨s.toArray⟩] W fun e w' => e = .returned (.bool (blankB s)) ∧ Below W.heap.size W w') := Lib.hid fun W => blankR_c s W (by omega)
    have hsm := over_len s false (s.length + 1) [] [] false 0 (Nat.zero_le _) (Nat.le_refl _)
    have hpr := tokens_pairs s false (s.length + 1) [] [] false 0 (fun k hk => by cases hk)
    generalize overR s false (s.length + 1) [] [] false 0 = R at *
    generalize blankB s = bb at *
    obtain ⟨L, p, x⟩ := R
    simp only at hsm hpr
    have HLL := Lib.hid (show L.length ≤ 1000000 by omega)
    have HPB : Hid (∀ k ∈ L, k.pairs.length ≤ 1000000) := Lib.hid fun k hk => by
      have := hpr k hk
      omega
    clear hW hn hsm hpr
    go_enter Tryz.func7, Tryz.ntmps7
    go_wp2_with fail
    refine C1.out.mono ?_
    rintro e0 w1 ⟨A1, m, c1, vs1, rfl, hv1, hr1, B1⟩
    have cv1 := cv w1
    clear cv
    go_wp2_with fail
    refine (C2.out _ B1).mono ?_
    rintro e0 w2 ⟨A2, m2, c2, vs2, rfl, hv2, hr2, b2⟩
    simp only at hv1 hv2
    have hm1 : L.length = m := by rw [← hv1, List.length_map]; exact hr1.len
    obtain rfl : m = m2 := by rw [← hm1, ← hv2, List.length_map]; exact hr2.len
    have CL := Lib.hid (like30_c A1 A2 m c1 c2 vs1 vs2 L w2 (hr1.up b2) hr2 hv1 hv2 (by have := HLL.out; omega) HPB.out)
    have B2 := Lib.hid (B1.trans (b2.mono B1.size))
    clear hv1 hv2 hr1 hr2 B1 b2 hm1 C1 C2 cv1
    have hbb : (bb == bb) = true := by simp
    go_wp2_with fail
    refine (CL.out).mono ?_
    rintro e w3 ⟨rfl, hb⟩
    have B3 := Lib.hid (B2.out.trans (hb.mono B2.out.size))
    clear hb
    go_wp2_with fail
    refine (C3.out _).mono ?_
    rintro e w4 ⟨rfl, hb⟩
    have B4 := Lib.hid (B3.out.trans (hb.mono B3.out.size))
    clear hb
    go_wp2_with fail
    refine (C4.out _).mono ?_
    rintro e w5 ⟨rfl, hb⟩
    have B5 := Lib.hid (B4.out.trans (hb.mono B4.out.size))
    clear hb
    go_wp2_with fail
    refine (LV.out _ B5.out).mono ?_
    rintro e w6 ⟨rfl, hb⟩
    have B6 := Lib.hid (B5.out.trans (hb.mono B5.out.size))
    clear hb
    go_wp2
    go_ret
    exact ⟨rfl, B6.out⟩
  · have hn' : (500 : Int) < (s.length : Int) := by omega
    clear hW hn
    go_enter Tryz.func7, Tryz.ntmps7
    go_wp2_with fail
    refine (LV.out _ (Below.refl _ _)).mono ?_
    rintro e w1 ⟨rfl, hb⟩
    have B1 := Lib.hid hb
    clear hb
    go_wp2
    go_ret
    exact ⟨rfl, B1.out⟩
end Go.Proofs.YtmclngahdklfkaaGreatDoor
