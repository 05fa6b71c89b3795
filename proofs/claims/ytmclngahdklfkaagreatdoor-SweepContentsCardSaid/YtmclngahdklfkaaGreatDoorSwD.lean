/- The law SweepDocuments. -/
import Derived.Test.YtmclngahdklfkaaGreatDoorRows
import Derived.WalkKit
import Derived.ProofKit
import Derived.OpenShut
import Derived.ShutString
import Derived.ChangeOld
import Derived.Below
import Derived.BigQuiet
import Derived.Deep.QuietTactic
import Derived.Lib.Hide
import Derived.Deep.RegionHeld3
import Derived.Lib.SlBytesConst
import Derived.Laws.CopyOwn
import Derived.Laws.CopyRow
import Derived.Lib.Bytes
import Derived.Deep.LoopGhost
import Derived.Deep.DeepFit
import Derived.Deep.DeepMust
import Derived.WalkSpells
import Derived.WalkLawsBesides
import Derived.Maps.OwnOps
import Derived.Maps.OwnSet
import Derived.Maps.Views
import Derived.Laws.EntriesVeiled
import Derived.Laws.Rows
import Derived.Maps.AppendAt
import Derived.Lib.SmallJoins
import Derived.Deep.AppendLies
import Derived.Deep.RegionLaw
import Derived.Deep.RegionWith
import Derived.Deep.RegionWith
import Derived.Deep.AppendLies
import Derived.Deep.RegionLaw
import Derived.Test.YtmclngahdklfkaaGreatDoorQ1
import Derived.Test.YtmclngahdklfkaaGreatDoorQ7
import Derived.Test.YtmclngahdklfkaaGreatDoorQ3
import Derived.Test.YtmclngahdklfkaaGreatDoorQ2
import Derived.Test.YtmclngahdklfkaaGreatDoorQ5
import Derived.Test.YtmclngahdklfkaaGreatDoorQ6
import Derived.Test.YtmclngahdklfkaaGreatDoorQ8
import Derived.Test.YtmclngahdklfkaaGreatDoorQ9
import Derived.Test.YtmclngahdklfkaaGreatDoorQ10
import Derived.Test.YtmclngahdklfkaaGreatDoorQ11
import Derived.Test.YtmclngahdklfkaaGreatDoorQ12
import Derived.Test.YtmclngahdklfkaaGreatDoorQ13
import Derived.Test.YtmclngahdklfkaaGreatDoorQ14
import Derived.Test.YtmclngahdklfkaaGreatDoorQ15
import Derived.Test.YtmclngahdklfkaaGreatDoorQ16
import Derived.Test.YtmclngahdklfkaaGreatDoorQ17
import Derived.Test.YtmclngahdklfkaaGreatDoorQ18
import Derived.Test.YtmclngahdklfkaaGreatDoorQ19
import Derived.Test.YtmclngahdklfkaaGreatDoorQ20
namespace Go.Proofs.YtmclngahdklfkaaGreatDoor
open Go.ChangeShapes Go.WideShapes Go.ChangeAt Go.RowKit
set_option linter.unusedVariables false
theorem tokens_pairs (l : List UInt8) (whole : Bool) : ∀ (f : Nat) (acc : List TokL) (op : List (List UInt8)) (root : Bool) (t : Nat), (∀ k ∈ acc, k.pairs.length ≤ l.length + 1) → ∀ k ∈ (overR l whole f acc op root t).1, k.pairs.length ≤ l.length + 1
  | 0, acc, op, root, t, h, k, hk => by cases hk
  | f + 1, acc, op, root, t, h, k, hk => by
    by_cases htl : t < l.length
    · by_cases h0 : (nextOut l t).2 = 0
      · have htx := nextOut_pairs l t htl
        have h' : nextOut l t = ((nextOut l t).1, 0) := by rw [← h0]
        obtain ⟨_, u, hu, _⟩ := nextOut_ok l t htl h0
        generalize (nextOut l t).1 = x at h' hu htx
        cases hm : mayS whole op root x with
        | none => rw [over_no htl h' hm] at hk; cases hk
        | some y =>
          obtain ⟨op', root'⟩ := y
          rw [over_more htl h' hm hu] at hk
          refine tokens_pairs l whole f _ op' root' u ?_ k hk
          split
          · exact h
          · intro z hz
            rcases List.mem_append.1 hz with hz | hz
            · exact h z hz
            · rw [List.mem_singleton] at hz; subst hz; exact htx
      · rw [over_bad htl rfl h0] at hk; cases hk
    · cases hb : (!op.isEmpty || (whole && !root)) with
      | true => rw [over_open htl hb] at hk; cases hk
      | false => rw [over_end htl hb] at hk; exact h k hk
set_option maxRecDepth 100000 in
set_option maxHeartbeats 4000000 in
theorem refOver_range (whole : Bool) (A : Option Addr) (n cap : Nat) (at_ : Int) (w : World) (ha : at_ < 0 ∨ (n : Int) < at_) :
    Calls Tryz.prog 20 #[.slice A n cap, .int .i64 at_, .bool whole] w fun e w' => AllPost ([], 0, 3) w e w' := by
  by_cases h0 : at_ < 0
  · have hd : decide (at_ < 0) = true := by simpa using h0
    clear ha
    go_enter Tryz.func20, Tryz.ntmps20
    go_wp2
    go_ret3
    exact AllPost.bad rfl (Below.refl _ _)
  · have h1 : (n : Int) < at_ := by omega
    clear ha
    go_enter Tryz.func20, Tryz.ntmps20
    go_wp2
    go_ret3
    exact AllPost.bad rfl (Below.refl _ _)
theorem refOverAt_c (whole : Bool) (A : Option Addr) (n cap : Nat) (l : List UInt8) (at_ : Int) (w : World) (h : Byt w w.heap.size A n cap l) (hm : n ≤ 40000) :
    Calls Tryz.prog 20 #[.slice A n cap, .int .i64 at_, .bool whole] w fun e w' => AllPost (overAt l at_ whole) w e w' := by
  unfold overAt
  rw [show ((l.length : Nat) : Int) = (n : Int) by rw [h.length]]
  by_cases ha : at_ < 0 ∨ (n : Int) < at_
  · rw [if_pos ha]; exact refOver_range whole A n cap at_ w ha
  · rw [if_neg ha]
    obtain ⟨k, rfl⟩ : ∃ k : Nat, at_ = (k : Int) := ⟨at_.toNat, by omega⟩
    rw [Int.toNat_natCast]
    exact refOver_c whole A n cap l k w h hm (by omega)
theorem overAt_small (l : List UInt8) (at_ : Int) (whole : Bool) : (overAt l at_ whole).1.length ≤ l.length ∧ ∀ k ∈ (overAt l at_ whole).1, k.pairs.length ≤ l.length + 1 := by
  unfold overAt
  split
  · exact ⟨Nat.zero_le _, fun k hk => by cases hk⟩
  · rename_i h
    exact ⟨over_len l whole _ [] [] false _ (by omega) (Nat.zero_le _), tokens_pairs l whole _ [] [] false _ (fun k hk => by cases hk)⟩
set_option maxRecDepth 100000 in
set_option maxHeartbeats 8000000 in
theorem sweepDocuments_walk (A : Option Addr) (n cap : Nat) (l : List UInt8) (at_ : Int) (w : World) (h : Byt w w.heap.size A n cap l) (hW : W11 w) :
    Calls Tryz.prog 5 #[.slice A n cap, .int .i64 at_] w fun e w' => e = .returned (.bool true) ∧ Below w.heap.size w w' := by
  have LV : Hid (∀ W, Below w.heap.size w W → Calls Tryz.prog 18 #[] W fun e w' => e = .returned (.bool true) ∧ Below W.heap.size W w') := Lib.hid fun W hb => live30_c W (hW.below hb)
  by_cases hn : n ≤ 500
  · have hn' : ¬ (500 : Int) < (n : Int) := by omega
    have C1 : Hid (Calls Tryz.prog 19 #[.slice A n cap, .int .i64 at_] w fun e w' => AllPost (overAt l at_ true) w e w') := Lib.hid (document_c A n cap l at_ w h hW (by omega))
    have C2 : Hid (∀ W, Below w.heap.size w W → Calls Tryz.prog 20 #[.slice A n cap, .int .i64 at_, .bool true] W fun e w' => AllPost (overAt l at_ true) W e w') := Lib.hid fun W hb => refOverAt_c true A n cap l at_ W ((h.below hb).more hb.size) (by omega)
    have hsm := overAt_small l at_ true
    have hnl := h.length
    generalize overAt l at_ true = R at *
    obtain ⟨L, p, x⟩ := R
    simp only at hsm
    rw [hnl] at hsm
    have HLL := Lib.hid (show L.length ≤ 1000000 by omega)
    have HPB : Hid (∀ k ∈ L, k.pairs.length ≤ 1000000) := Lib.hid fun k hk => by
      have := hsm.2 k hk
      omega
    clear h hW hn hsm hnl
    go_enter Tryz.func5, Tryz.ntmps5
    go_wp2_with fail
    refine C1.out.mono ?_
    rintro e0 w1 ⟨A1, m, c1, vs1, rfl, hv1, hr1, B1⟩
    go_wp2_with fail
    refine (C2.out _ B1).mono ?_
    rintro e0 w2 ⟨A2, m2, c2, vs2, rfl, hv2, hr2, b2⟩
    simp only at hv1 hv2
    have hm1 : L.length = m := by rw [← hv1, List.length_map]; exact hr1.len
    obtain rfl : m = m2 := by rw [← hm1, ← hv2, List.length_map]; exact hr2.len
    have CL := Lib.hid (like30_c A1 A2 m c1 c2 vs1 vs2 L w2 (hr1.up b2) hr2 hv1 hv2 (by have := HLL.out; omega) HPB.out)
    have B2 := Lib.hid (B1.trans (b2.mono B1.size))
    clear hv1 hv2 hr1 hr2 B1 b2 hm1 C1 C2
    go_wp2_with fail
    refine (CL.out).mono ?_
    rintro e w3 ⟨rfl, hb⟩
    have B3 := Lib.hid (B2.out.trans (hb.mono B2.out.size))
    clear hb
    go_wp2_with fail
    refine (LV.out _ B3.out).mono ?_
    rintro e w4 ⟨rfl, hb⟩
    have B4 := Lib.hid (B3.out.trans (hb.mono B3.out.size))
    clear hb
    go_wp2
    go_ret
    exact ⟨rfl, B4.out⟩
  · have hn' : (500 : Int) < (n : Int) := by omega
    clear hW hn h
    go_enter Tryz.func5, Tryz.ntmps5
    go_wp2_with fail
    refine (LV.out _ (Below.refl _ _)).mono ?_
    rintro e w1 ⟨rfl, hb⟩
    have B1 := Lib.hid hb
    clear hb
    go_wp2
    go_ret
    exact ⟨rfl, B1.out⟩
end Go.Proofs.YtmclngahdklfkaaGreatDoor
