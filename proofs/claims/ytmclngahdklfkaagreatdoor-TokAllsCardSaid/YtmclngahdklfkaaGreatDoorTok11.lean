/- The law TokAlls: the walk. -/
import Derived.Test.YtmclngahdklfkaaGreatDoorRows
import Derived.Test.YtmclngahdklfkaaGreatDoorQX
import Derived.WalkKit
import Derived.ProofKit
import Derived.OpenShut
import Derived.ShutString
import Derived.ChangeOld
import Derived.Below
import Derived.BigQuiet
import Derived.Deep.QuietTactic
import Derived.Lib.Hide
import Derived.Deep.RegionHeld3
import Derived.Lib.SlBytesConst
import Derived.Laws.CopyOwn
import Derived.Laws.CopyRow
import Derived.Lib.Bytes
import Derived.Deep.LoopGhost
import Derived.Deep.DeepFit
import Derived.Deep.DeepMust
import Derived.WalkSpells
import Derived.WalkLawsBesides
import Derived.Maps.OwnOps
import Derived.Maps.OwnSet
import Derived.Maps.Views
import Derived.Laws.EntriesVeiled
import Derived.Laws.Rows
import Derived.Maps.AppendAt
import Derived.Lib.SmallJoins
import Derived.Deep.AppendLies
import Derived.Deep.RegionLaw
import Derived.Deep.RegionWith
import Derived.Deep.RegionWith
import Derived.Test.YtmclngahdklfkaaGreatDoorQ1
import Derived.Test.YtmclngahdklfkaaGreatDoorQ6
import Derived.Test.YtmclngahdklfkaaGreatDoorQ2
import Derived.Test.YtmclngahdklfkaaGreatDoorQ4
import Derived.Test.YtmclngahdklfkaaGreatDoorQ5
import Derived.Test.YtmclngahdklfkaaGreatDoorQ8
import Derived.Test.YtmclngahdklfkaaGreatDoorQ9
import Derived.Test.YtmclngahdklfkaaGreatDoorQ10
import Derived.Test.YtmclngahdklfkaaGreatDoorQ11
import Derived.Test.YtmclngahdklfkaaGreatDoorQ12
import Derived.Test.YtmclngahdklfkaaGreatDoorQ13
import Derived.Test.YtmclngahdklfkaaGreatDoorQ14
import Derived.Test.YtmclngahdklfkaaGreatDoorQ15
import Derived.Test.YtmclngahdklfkaaGreatDoorQ16
import Derived.Test.YtmclngahdklfkaaGreatDoorQ17
import Derived.Test.YtmclngahdklfkaaGreatDoorQ18
import Derived.Test.YtmclngahdklfkaaGreatDoorQ19
import Derived.Test.YtmclngahdklfkaaGreatDoorQ20
import Derived.Test.YtmclngahdklfkaaGreatDoorQ21
import Derived.Test.YtmclngahdklfkaaGreatDoorQ24
import Derived.Test.YtmclngahdklfkaaGreatDoorQ22
import Derived.Test.YtmclngahdklfkaaGreatDoorQ23
import Derived.Test.YtmclngahdklfkaaGreatDoorQ7
import Derived.Test.YtmclngahdklfkaaGreatDoorQ25
import Derived.Test.YtmclngahdklfkaaGreatDoorTok9
import Derived.Test.YtmclngahdklfkaaGreatDoorTok10
import Derived.Test.YtmclngahdklfkaaGreatDoorTok10b
import Derived.Test.YtmclngahdklfkaaGreatDoorTokQ
namespace Go.Proofs.YtmclngahdklfkaaGreatDoor
open Go.ChangeShapes Go.WideShapes Go.ChangeAt Go.RowKit
set_option linter.unusedVariables false
set_option maxRecDepth 100000 in
set_option maxHeartbeats 8000000 in
theorem tokAlls_walk (A : Option Addr) (n cap : Nat) (l : List UInt8) (w : World) (h : Byt w w.heap.size A n cap l) (hW : W11 w) :
    Calls Tryz.prog 4 #[.slice A n cap] w fun e w' => e = .returned (.bool true) ∧ Below w.heap.size w w' := by
  have LV : Hid (∀ W, Below w.heap.size w W → Calls Tryz.prog 9 #[] W fun e w' => e = .returned (.bool true) ∧ Below W.heap.size W w') := Lib.hid fun W hb => live11_c W (hW.below hb)
  by_cases hn : n ≤ 400
  · have hn' : ¬ (400 : Int) < (n : Int) := by omega
    have HK : Hid (∀ W, Below w.heap.size w W → Byt W W.heap.size A n cap l ∧ W11 W) := Lib.hid fun W hb => ⟨(h.below hb).more hb.size, hW.below hb⟩
    have C1 : Hid (∀ W, Below w.heap.size w W → Calls Tryz.prog 14 #[.slice A n cap] W fun e w' => AllPost (allOut l) W e w') := Lib.hid fun W hb => tokAll_c A n cap l W (HK.out W hb).1 (HK.out W hb).2 (by omega)
    have C2 : Hid (∀ W, Below w.heap.size w W → Calls Tryz.prog 15 #[.slice A n cap] W fun e w' => AllPost (allOut l) W e w') := Lib.hid fun W hb => refAll_c A n cap l W (HK.out W hb).1 (by omega)
    have hch := allOut_chain l
    rw [h.length] at hch
    generalize allOut l = ao at *
    obtain ⟨L, at_, x⟩ := ao
    simp only at hch
    have HCH := Lib.hid hch.1
    have HLL := Lib.hid (show L.length ≤ 400 by omega)
    have HPB : Hid (∀ k ∈ L, k.pairs.length ≤ 1000000) := Lib.hid fun k hk => by
      have := hch.1.prs k hk
      have := h.length
      omega
    clear HK h hW hn hch
    go_enter Tryz.func4, Tryz.ntmps4
    go_wp2_with fail
    refine (C1.out _ (Below.refl _ _)).mono ?_
    rintro e0 w1 ⟨A1, m, c1, vs1, rfl, hv1, hr1, B1⟩
    go_wp2_with fail
    refine (C2.out _ B1).mono ?_
    rintro e0 w2 ⟨A2, m2, c2, vs2, rfl, hv2, hr2, b2⟩
    simp only at hv1 hv2
    have hm1 : L.length = m := by rw [← hv1, List.length_map]; exact hr1.len
    obtain rfl : m = m2 := by rw [← hm1, ← hv2, List.length_map]; exact hr2.len
    have J0 : Hid (Below w.heap.size w w2 ∧ TRd w2 w2.heap.size A1 m c1 vs1 ∧ TRd w2 w2.heap.size A2 m c2 vs2) := Lib.hid ⟨B1.trans (b2.mono B1.size), hr1.up b2, hr2⟩
    have HV := Lib.hid (And.intro hv1 hv2)
    have HM := Lib.hid hm1
    have CV : Hid (∀ W, Hid (Below w.heap.size w W ∧ TRd W W.heap.size A1 m c1 vs1 ∧ TRd W W.heap.size A2 m c2 vs2) → Calls Tryz.prog 9 #[] W fun e w' => e = .returned (.bool true) ∧ Hid (Below w.heap.size w w')) := Lib.hid fun W hJ => (LV.out W hJ.out.1).mono fun e w' ⟨he, hb⟩ => ⟨he, Lib.hid (hJ.out.1.trans (hb.mono hJ.out.1.size))⟩
    have CM1 : Hid (∀ W, Hid (Below w.heap.size w W ∧ TRd W W.heap.size A1 m c1 vs1 ∧ TRd W W.heap.size A2 m c2 vs2) → Calls Tryz.prog 16 #[.slice A1 m c1] W fun e w' => e = .returned (.tuple #[.int .i64 ((matchOut L).1 : Int), .bool (matchOut L).2]) ∧ Hid (Below w.heap.size w w' ∧ TRd w' w'.heap.size A1 m c1 vs1 ∧ TRd w' w'.heap.size A2 m c2 vs2)) := Lib.hid fun W hJ => by
      have := tokMatch_c A1 m c1 vs1 W hJ.out.2.1 (by have := HLL.out; have := HM.out; omega)
      rw [HV.out.1] at this
      exact this.mono fun e w' ⟨he, hb⟩ => ⟨he, Lib.hid ⟨hJ.out.1.trans (hb.mono hJ.out.1.size), hJ.out.2.1.up hb, hJ.out.2.2.up hb⟩⟩
    have CM2 : Hid (∀ W, Hid (Below w.heap.size w W ∧ TRd W W.heap.size A1 m c1 vs1 ∧ TRd W W.heap.size A2 m c2 vs2) → Calls Tryz.prog 17 #[.slice A2 m c2] W fun e w' => e = .returned (.tuple #[.int .i64 ((matchOut L).1 : Int), .bool (matchOut L).2]) ∧ Hid (Below w.heap.size w w' ∧ TRd w' w'.heap.size A1 m c1 vs1 ∧ TRd w' w'.heap.size A2 m c2 vs2)) := Lib.hid fun W hJ => by
      have := refMatch_c A2 m c2 vs2 W hJ.out.2.2 (by have := HLL.out; have := HM.out; omega)
      rw [HV.out.2] at this
      exact this.mono fun e w' ⟨he, hb⟩ => ⟨he, Lib.hid ⟨hJ.out.1.trans (hb.mono hJ.out.1.size), hJ.out.2.1.up hb, hJ.out.2.2.up hb⟩⟩
    generalize matchOut L = mo at *
    obtain ⟨mi, mb⟩ := mo
    simp only at CM1 CM2
    clear hv1 hv2 hr1 hr2 B1 b2 hm1 C1 C2 LV
    go_wp2_with fail
    go_loopg [9, 10] (m) (fun g pv i W => ∃ t : Nat, i = .int .i64 (t : Int) ∧ t ≤ m ∧ Hid (g + t = m) ∧ pv = .int .i64 (plc L t) ∧ Hid (Below w.heap.size w W ∧ TRd W W.heap.size A1 m c1 vs1 ∧ TRd W W.heap.size A2 m c2 vs2))
    case atStart => exact ⟨0, rfl, Nat.zero_le _, Lib.hid rfl, rfl, J0⟩
    case round =>
      obtain ⟨t, rfl, ht, hg, rfl, HJ⟩ := hrel
      have ht0 : (0 : Int) ≤ (t : Int) := by omega
      have ht9 : (t : Int) ≤ 400 := by have := HLL.out; have := HM.out; omega
      by_cases htm : t < m
      · have hti : (t : Int) < (m : Int) := by omega
        obtain ⟨b1, o1, v1, rfl, hb1, hv1, hc1, hp1⟩ := HJ.out.2.1.cell htm
        obtain ⟨b2, o2, v2, rfl, hb2, hv2, hc2, hp2⟩ := HJ.out.2.2.cell htm
        have hk1 : L[t]? = some v1.t := by rw [← HV.out.1, List.getElem?_map, hv1]; rfl
        have hk2 : L[t]? = some v2.t := by rw [← HV.out.2, List.getElem?_map, hv2]; rfl
        have hkk : v2.t = v1.t := by rw [hk1] at hk2; exact (Option.some.inj hk2).symm
        obtain ⟨hfro, hto⟩ := HCH.out.one t v1.t hk1
        have hpl := HPB.out v1.t (List.mem_of_getElem? hk1)
        have hpn : plc L (t + 1) = v1.t.to_ := by
          show (match L[t]? with | some k => k.to_ | none => 0) = _
          rw [hk1]
        have HR1 : Hid (∀ W, TRd W W.heap.size (some ⟨b1, o1, none⟩) m c1 vs1 → (∀ (j : Nat) u, v1.cells[j]? = some u → W.cell? ⟨b1, o1 + (t * 7 + j), none⟩ = some u) ∧ PRd W W.heap.size v1.A v1.n v1.c v1.t.pairs) := Lib.hid fun W hr => by
          obtain ⟨b', o', v', e', _, hv', hc', hp'⟩ := hr.cell htm
          cases e'
          rw [hv1] at hv'
          cases hv'
          exact ⟨hc', hp'⟩
        have HR2 : Hid (∀ W, TRd W W.heap.size (some ⟨b2, o2, none⟩) m c2 vs2 → (∀ (j : Nat) u, v2.cells[j]? = some u → W.cell? ⟨b2, o2 + (t * 7 + j), none⟩ = some u) ∧ PRd W W.heap.size v2.A v2.n v2.c v1.t.pairs) := Lib.hid fun W hr => by
          obtain ⟨b', o', v', e', _, hv', hc', hp'⟩ := hr.cell htm
          cases e'
          rw [hv2] at hv'
          cases hv'
          rw [hkk] at hp'
          exact ⟨hc', hp'⟩
        clear hb1 hv1 hc1 hp1 hb2 hv2 hc2 hk1 hk2
        have hvn : v1.n = v2.n := by
          have a := (HR1.out _ HJ.out.2.1).2.len
          have b := (HR2.out _ HJ.out.2.2).2.len
          omega
        have hvl : v2.n ≤ 1000000 := by
          have b := (HR2.out _ HJ.out.2.2).2.len
          omega
        obtain ⟨k, kA, kn, kc⟩ := v1
        obtain ⟨k2, jA, jn, jc⟩ := v2
        simp only at hkk hvn hvl hpl hfro hto hpn
        subst hkk hvn
        clear hp2
        simp only at HR1 HR2
        have HSC : Hid (∀ w', (Below w.heap.size w w' ∧ TRd w' w'.heap.size (some ⟨b1, o1, none⟩) m c1 vs1 ∧ TRd w' w'.heap.size (some ⟨b2, o2, none⟩) m c2 vs2) → w'.cell? ⟨b1, o1 + t * 7, none⟩ = some (.int .i64 k2.kind) ∧ w'.cell? ⟨b1, o1 + t * 7 + 1, none⟩ = some (.int .i64 k2.fro) ∧ w'.cell? ⟨b1, o1 + t * 7 + 2, none⟩ = some (.int .i64 k2.to_) ∧ w'.cell? ⟨b1, o1 + t * 7 + 3, none⟩ = some (.string ⟨k2.name.toArray⟩) ∧ w'.cell? ⟨b1, o1 + t * 7 + 4, none⟩ = some (.string ⟨k2.text.toArray⟩) ∧ w'.cell? ⟨b1, o1 + t * 7 + 5, none⟩ = some (.slice kA kn kc) ∧ w'.cell? ⟨b1, o1 + t * 7 + 6, none⟩ = some (.int .i64 k2.r) ∧ w'.cell? ⟨b2, o2 + t * 7, none⟩ = some (.int .i64 k2.kind) ∧ w'.cell? ⟨b2, o2 + t * 7 + 1, none⟩ = some (.int .i64 k2.fro) ∧ w'.cell? ⟨b2, o2 + t * 7 + 2, none⟩ = some (.int .i64 k2.to_) ∧ w'.cell? ⟨b2, o2 + t * 7 + 3, none⟩ = some (.string ⟨k2.name.toArray⟩) ∧ w'.cell? ⟨b2, o2 + t * 7 + 4, none⟩ = some (.string ⟨k2.text.toArray⟩) ∧ w'.cell? ⟨b2, o2 + t * 7 + 5, none⟩ = some (.slice jA kn jc) ∧ w'.cell? ⟨b2, o2 + t * 7 + 6, none⟩ = some (.int .i64 k2.r)) := Lib.hid fun w' J => by
          have g1 := (HR1.out w' J.2.1).1
          have g2 := (HR2.out w' J.2.2).1
          exact ⟨by rw [show o1 + t * 7 = o1 + (t * 7 + 0) by omega]; exact g1 0 _ rfl, by rw [show o1 + t * 7 + 1 = o1 + (t * 7 + 1) by omega]; exact g1 1 _ rfl, by rw [show o1 + t * 7 + 2 = o1 + (t * 7 + 2) by omega]; exact g1 2 _ rfl, by rw [show o1 + t * 7 + 3 = o1 + (t * 7 + 3) by omega]; exact g1 3 _ rfl, by rw [show o1 + t * 7 + 4 = o1 + (t * 7 + 4) by omega]; exact g1 4 _ rfl, by rw [show o1 + t * 7 + 5 = o1 + (t * 7 + 5) by omega]; exact g1 5 _ rfl, by rw [show o1 + t * 7 + 6 = o1 + (t * 7 + 6) by omega]; exact g1 6 _ rfl, by rw [show o2 + t * 7 = o2 + (t * 7 + 0) by omega]; exact g2 0 _ rfl, by rw [show o2 + t * 7 + 1 = o2 + (t * 7 + 1) by omega]; exact g2 1 _ rfl, by rw [show o2 + t * 7 + 2 = o2 + (t * 7 + 2) by omega]; exact g2 2 _ rfl, by rw [show o2 + t * 7 + 3 = o2 + (t * 7 + 3) by omega]; exact g2 3 _ rfl, by rw [show o2 + t * 7 + 4 = o2 + (t * 7 + 4) by omega]; exact g2 4 _ rfl, by rw [show o2 + t * 7 + 5 = o2 + (t * 7 + 5) by omega]; exact g2 5 _ rfl, by rw [show o2 + t * 7 + 6 = o2 + (t * 7 + 6) by omega]; exact g2 6 _ rfl⟩
        have CL : Hid (∀ W, Hid (Below w.heap.size w W ∧ TRd W W.heap.size (some ⟨b1, o1, none⟩) m c1 vs1 ∧ TRd W W.heap.size (some ⟨b2, o2, none⟩) m c2 vs2) → Calls Tryz.prog 13 #[.agg #[.int .i64 k2.kind, .int .i64 k2.fro, .int .i64 k2.to_, .string ⟨k2.name.toArray⟩, .string ⟨k2.text.toArray⟩, .slice kA kn kc, .int .i64 k2.r]] W fun e w' => e = .returned (.agg #[.int .i64 k2.kind, .int .i64 k2.fro, .int .i64 k2.to_, .string ⟨k2.name.toArray⟩, .string ⟨k2.text.toArray⟩, .slice kA kn kc, .int .i64 k2.r]) ∧ Hid (Below w.heap.size w w' ∧ TRd w' w'.heap.size (some ⟨b1, o1, none⟩) m c1 vs1 ∧ TRd w' w'.heap.size (some ⟨b2, o2, none⟩) m c2 vs2) ∧ w'.cell? ⟨b1, o1 + t * 7, none⟩ = some (.int .i64 k2.kind) ∧ w'.cell? ⟨b1, o1 + t * 7 + 1, none⟩ = some (.int .i64 k2.fro) ∧ w'.cell? ⟨b1, o1 + t * 7 + 2, none⟩ = some (.int .i64 k2.to_) ∧ w'.cell? ⟨b1, o1 + t * 7 + 3, none⟩ = some (.string ⟨k2.name.toArray⟩) ∧ w'.cell? ⟨b1, o1 + t * 7 + 4, none⟩ = some (.string ⟨k2.text.toArray⟩) ∧ w'.cell? ⟨b1, o1 + t * 7 + 5, none⟩ = some (.slice kA kn kc) ∧ w'.cell? ⟨b1, o1 + t * 7 + 6, none⟩ = some (.int .i64 k2.r) ∧ w'.cell? ⟨b2, o2 + t * 7, none⟩ = some (.int .i64 k2.kind) ∧ w'.cell? ⟨b2, o2 + t * 7 + 1, none⟩ = some (.int .i64 k2.fro) ∧ w'.cell? ⟨b2, o2 + t * 7 + 2, none⟩ = some (.int .i64 k2.to_) ∧ w'.cell? ⟨b2, o2 + t * 7 + 3, none⟩ = some (.string ⟨k2.name.toArray⟩) ∧ w'.cell? ⟨b2, o2 + t * 7 + 4, none⟩ = some (.string ⟨k2.text.toArray⟩) ∧ w'.cell? ⟨b2, o2 + t * 7 + 5, none⟩ = some (.slice jA kn jc) ∧ w'.cell? ⟨b2, o2 + t * 7 + 6, none⟩ = some (.int .i64 k2.r)) := Lib.hid fun W hJ => (like_c k2 kA kn kc W).mono fun e w' ⟨he, hb⟩ => by
          have J : Below w.heap.size w w' ∧ TRd w' w'.heap.size (some ⟨b1, o1, none⟩) m c1 vs1 ∧ TRd w' w'.heap.size (some ⟨b2, o2, none⟩) m c2 vs2 := ⟨hJ.out.1.trans (hb.mono hJ.out.1.size), hJ.out.2.1.up hb, hJ.out.2.2.up hb⟩
          exact ⟨he, Lib.hid J, HSC.out w' J⟩
        have CS : Hid (∀ W, Hid (Below w.heap.size w W ∧ TRd W W.heap.size (some ⟨b1, o1, none⟩) m c1 vs1 ∧ TRd W W.heap.size (some ⟨b2, o2, none⟩) m c2 vs2) → Calls Tryz.prog 12 #[.agg #[.int .i64 k2.kind, .int .i64 k2.fro, .int .i64 k2.to_, .string ⟨k2.name.toArray⟩, .string ⟨k2.text.toArray⟩, .slice kA kn kc, .int .i64 k2.r], .agg #[.int .i64 k2.kind, .int .i64 k2.fro, .int .i64 k2.to_, .string ⟨k2.name.toArray⟩, .string ⟨k2.text.toArray⟩, .slice jA kn jc, .int .i64 k2.r]] W fun e w' => e = .returned (.bool true) ∧ Hid (Below w.heap.size w w' ∧ TRd w' w'.heap.size (some ⟨b1, o1, none⟩) m c1 vs1 ∧ TRd w' w'.heap.size (some ⟨b2, o2, none⟩) m c2 vs2) ∧ w'.cell? ⟨b1, o1 + t * 7, none⟩ = some (.int .i64 k2.kind) ∧ w'.cell? ⟨b1, o1 + t * 7 + 1, none⟩ = some (.int .i64 k2.fro) ∧ w'.cell? ⟨b1, o1 + t * 7 + 2, none⟩ = some (.int .i64 k2.to_) ∧ w'.cell? ⟨b1, o1 + t * 7 + 3, none⟩ = some (.string ⟨k2.name.toArray⟩) ∧ w'.cell? ⟨b1, o1 + t * 7 + 4, none⟩ = some (.string ⟨k2.text.toArray⟩) ∧ w'.cell? ⟨b1, o1 + t * 7 + 5, none⟩ = some (.slice kA kn kc) ∧ w'.cell? ⟨b1, o1 + t * 7 + 6, none⟩ = some (.int .i64 k2.r) ∧ w'.cell? ⟨b2, o2 + t * 7, none⟩ = some (.int .i64 k2.kind) ∧ w'.cell? ⟨b2, o2 + t * 7 + 1, none⟩ = some (.int .i64 k2.fro) ∧ w'.cell? ⟨b2, o2 + t * 7 + 2, none⟩ = some (.int .i64 k2.to_) ∧ w'.cell? ⟨b2, o2 + t * 7 + 3, none⟩ = some (.string ⟨k2.name.toArray⟩) ∧ w'.cell? ⟨b2, o2 + t * 7 + 4, none⟩ = some (.string ⟨k2.text.toArray⟩) ∧ w'.cell? ⟨b2, o2 + t * 7 + 5, none⟩ = some (.slice jA kn jc) ∧ w'.cell? ⟨b2, o2 + t * 7 + 6, none⟩ = some (.int .i64 k2.r)) := Lib.hid fun W hJ => (same11_c k2 kA jA kn kc jc W (HR1.out W hJ.out.2.1).2 (HR2.out W hJ.out.2.2).2 hvl).mono fun e w' ⟨he, hb⟩ => by
          have J : Below w.heap.size w w' ∧ TRd w' w'.heap.size (some ⟨b1, o1, none⟩) m c1 vs1 ∧ TRd w' w'.heap.size (some ⟨b2, o2, none⟩) m c2 vs2 := ⟨hJ.out.1.trans (hb.mono hJ.out.1.size), hJ.out.2.1.up hb, hJ.out.2.2.up hb⟩
          exact ⟨he, Lib.hid J, HSC.out w' J⟩
        have fE : (k2.fro != plc L t) = false := by rw [hfro]; simp
        have fL : ¬ k2.to_ ≤ plc L t := by omega
        have HPN := Lib.hid hpn
        clear hfro hto hpn hpl hvl
        generalize plc L t = pl at *
        go_wp2_with fail
        have HJd : Hid (Below w.heap.size w wr.drew ∧ TRd wr.drew wr.drew.heap.size (some ⟨b1, o1, none⟩) m c1 vs1 ∧ TRd wr.drew wr.drew.heap.size (some ⟨b2, o2, none⟩) m c2 vs2) := Lib.hid ⟨below_drewN' (n := 1) HJ.out.1, HJ.out.2.1.drewN (k := 1), HJ.out.2.2.drewN (k := 1)⟩
        obtain ⟨x0, x1, x2, x3, x4, x5, x6, y0, y1, y2, y3, y4, y5, y6⟩ := HSC.out _ HJd.out
        go_region_held3 (fun w' => w'.cell? ⟨b1, o1 + t * 7, none⟩ = some (.int .i64 k2.kind) ∧ w'.cell? ⟨b1, o1 + t * 7 + 1, none⟩ = some (.int .i64 k2.fro) ∧ w'.cell? ⟨b1, o1 + t * 7 + 2, none⟩ = some (.int .i64 k2.to_) ∧ w'.cell? ⟨b1, o1 + t * 7 + 3, none⟩ = some (.string ⟨k2.name.toArray⟩) ∧ w'.cell? ⟨b1, o1 + t * 7 + 4, none⟩ = some (.string ⟨k2.text.toArray⟩) ∧ w'.cell? ⟨b1, o1 + t * 7 + 5, none⟩ = some (.slice kA kn kc) ∧ w'.cell? ⟨b1, o1 + t * 7 + 6, none⟩ = some (.int .i64 k2.r) ∧ w'.cell? ⟨b2, o2 + t * 7, none⟩ = some (.int .i64 k2.kind) ∧ w'.cell? ⟨b2, o2 + t * 7 + 1, none⟩ = some (.int .i64 k2.fro) ∧ w'.cell? ⟨b2, o2 + t * 7 + 2, none⟩ = some (.int .i64 k2.to_) ∧ w'.cell? ⟨b2, o2 + t * 7 + 3, none⟩ = some (.string ⟨k2.name.toArray⟩) ∧ w'.cell? ⟨b2, o2 + t * 7 + 4, none⟩ = some (.string ⟨k2.text.toArray⟩) ∧ w'.cell? ⟨b2, o2 + t * 7 + 5, none⟩ = some (.slice jA kn jc) ∧ w'.cell? ⟨b2, o2 + t * 7 + 6, none⟩ = some (.int .i64 k2.r) ∧ Hid (Below w.heap.size w w' ∧ TRd w' w'.heap.size (some ⟨b1, o1, none⟩) m c1 vs1 ∧ TRd w' w'.heap.size (some ⟨b2, o2, none⟩) m c2 vs2)) (first | exact ⟨by assumption, by assumption, by assumption, by assumption, by assumption, by assumption, by assumption, by assumption, by assumption, by assumption, by assumption, by assumption, by assumption, by assumption, by assumption⟩) (first | (go_at_call 13; refine (CL.out _ (by assumption)).mono ?_; rintro e W1 ⟨rfl, HQ1, q0, q1, q2, q3, q4, q5, q6, q7, q8, q9, q10, q11, q12, q13⟩) | (go_at_call 12; refine (CS.out _ (by assumption)).mono ?_; rintro e W2 ⟨rfl, HQ2, q0, q1, q2, q3, q4, q5, q6, q7, q8, q9, q10, q11, q12, q13⟩))
        go_wp2
        go_roundg (m - (t + 1))
        case measure => have := hg.out; omega
        case rel => exact ⟨t + 1, by go_num, by omega, Lib.hid (by omega), by rw [HPN.out], by assumption⟩
      · have hti : ¬ (t : Int) < (m : Int) := by omega
        go_wp2_with fail
        refine (CM1.out _ HJ).mono ?_
        rintro e0 w3 ⟨rfl, HJ3⟩
        go_wp2_with fail
        refine (CM2.out _ HJ3).mono ?_
        rintro e0 w4 ⟨rfl, HJ4⟩
        go_wp2_with fail
        refine (CV.out _ HJ4).mono ?_
        rintro e0 w5 ⟨rfl, HB5⟩
        go_wp2
        go_ret
        exact ⟨rfl, HB5.out⟩
  · have hn' : (400 : Int) < (n : Int) := by omega
    clear hW hn h
    go_enter Tryz.func4, Tryz.ntmps4
    go_wp2_with fail
    refine (LV.out _ (Below.refl _ _)).mono ?_
    rintro e w1 ⟨rfl, hb⟩
    have B1 := Lib.hid hb
    clear hb
    go_wp2
    go_ret
    exact ⟨rfl, B1.out⟩
end Go.Proofs.YtmclngahdklfkaaGreatDoor
