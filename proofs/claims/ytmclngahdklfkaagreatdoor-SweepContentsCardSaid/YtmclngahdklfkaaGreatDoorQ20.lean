/- Texts of ours, joined: SwL, Sw9, Laid, Laid3. -/
import Derived.Test.YtmclngahdklfkaaGreatDoorRows
import Derived.WalkKit
import Derived.ProofKit
import Derived.OpenShut
import Derived.ShutString
import Derived.ChangeOld
import Derived.Below
import Derived.BigQuiet
import Derived.Deep.QuietTactic
import Derived.Lib.Hide
import Derived.Deep.RegionHeld3
import Derived.Lib.SlBytesConst
import Derived.Laws.CopyOwn
import Derived.Laws.CopyRow
import Derived.Lib.Bytes
import Derived.Deep.LoopGhost
import Derived.Deep.DeepFit
import Derived.Deep.DeepMust
import Derived.WalkSpells
import Derived.WalkLawsBesides
import Derived.Maps.OwnOps
import Derived.Maps.OwnSet
import Derived.Maps.Views
import Derived.Laws.EntriesVeiled
import Derived.Laws.Rows
import Derived.Maps.AppendAt
import Derived.Lib.SmallJoins
import Derived.Deep.AppendLies
import Derived.Deep.RegionLaw
import Derived.Deep.RegionWith
import Derived.Test.YtmclngahdklfkaaGreatDoorQ1
import Derived.Test.YtmclngahdklfkaaGreatDoorQ7
import Derived.Test.YtmclngahdklfkaaGreatDoorQ3
import Derived.Test.YtmclngahdklfkaaGreatDoorQ2
import Derived.Test.YtmclngahdklfkaaGreatDoorQ5
import Derived.Test.YtmclngahdklfkaaGreatDoorQ6
import Derived.Test.YtmclngahdklfkaaGreatDoorQ8
import Derived.Test.YtmclngahdklfkaaGreatDoorQ9
import Derived.Test.YtmclngahdklfkaaGreatDoorQ10
import Derived.Test.YtmclngahdklfkaaGreatDoorQ11
import Derived.Test.YtmclngahdklfkaaGreatDoorQ12
import Derived.Test.YtmclngahdklfkaaGreatDoorQ13
import Derived.Test.YtmclngahdklfkaaGreatDoorQ14
import Derived.Test.YtmclngahdklfkaaGreatDoorQ15
import Derived.Test.YtmclngahdklfkaaGreatDoorQ16
import Derived.Test.YtmclngahdklfkaaGreatDoorQ17
import Derived.Lib.LaidCaseMet
import Derived.Deep.DeepLaidRun
/- The law's Like. -/
namespace Go.Proofs.YtmclngahdklfkaaGreatDoor
open Go.ChangeShapes Go.WideShapes Go.ChangeAt Go.RowKit
set_option linter.unusedVariables false
set_option maxRecDepth 100000 in
set_option maxHeartbeats 8000000 in
theorem like30_c (A1 A2 : Option Addr) (m c1 c2 : Nat) (vs1 vs2 : List TokV) (L : List TokL) (w : World) (h1 : TRd w w.heap.size A1 m c1 vs1) (h2 : TRd w w.heap.size A2 m c2 vs2) (hv1 : vs1.map TokV.t = L) (hv2 : vs2.map TokV.t = L) (hm : m ≤ 1000000) (hp : ∀ k ∈ L, k.pairs.length ≤ 1000000) :
    Calls Tryz.prog 21 #[.slice A1 m c1, .slice A2 m c2] w fun e w' => e = .returned (.bool true) ∧ Below w.heap.size w w' := by
  have HV := Lib.hid (And.intro hv1 hv2)
  have HM := Lib.hid hm
  have HPB := Lib.hid hp
  have J0 : Hid (Below w.heap.size w w ∧ TRd w w.heap.size A1 m c1 vs1 ∧ TRd w w.heap.size A2 m c2 vs2) := Lib.hid ⟨Below.refl _ _, h1, h2⟩
  clear h1 h2 hv1 hv2 hm hp
  go_enter Tryz.func21, Tryz.ntmps21
  go_wp2_with fail
  go_loopg [5] (m) (fun g i W => ∃ t : Nat, i = .int .i64 (t : Int) ∧ t ≤ m ∧ Hid (g + t = m) ∧ Hid (Below w.heap.size w W ∧ TRd W W.heap.size A1 m c1 vs1 ∧ TRd W W.heap.size A2 m c2 vs2))
  case atStart => exact ⟨0, rfl, Nat.zero_le _, Lib.hid rfl, J0⟩
  case round =>
      obtain ⟨t, rfl, ht, hg, HJ⟩ := hrel
      have ht0 : (0 : Int) ≤ (t : Int) := by omega
      have ht9 : (t : Int) ≤ 1000000 := by have := HM.out; omega
      by_cases htm : t < m
      · have hti : (t : Int) < (m : Int) := by omega
        obtain ⟨b1, o1, v1, rfl, hb1, hv1, hc1, hp1⟩ := HJ.out.2.1.cell htm
        obtain ⟨b2, o2, v2, rfl, hb2, hv2, hc2, hp2⟩ := HJ.out.2.2.cell htm
        have hk1 : L[t]? = some v1.t := by rw [← HV.out.1, List.getElem?_map, hv1]; rfl
        have hk2 : L[t]? = some v2.t := by rw [← HV.out.2, List.getElem?_map, hv2]; rfl
        have hkk : v2.t = v1.t := by rw [hk1] at hk2; exact (Option.some.inj hk2).symm
        have hpl := HPB.out v1.t (List.mem_of_getElem? hk1)
        have HR1 : Hid (∀ W, TRd W W.heap.size (some ⟨b1, o1, none⟩) m c1 vs1 → (∀ (j : Nat) u, v1.cells[j]? = some u → W.cell? ⟨b1, o1 + (t * 7 + j), none⟩ = some u) ∧ PRd W W.heap.size v1.A v1.n v1.c v1.t.pairs) := Lib.hid fun W hr => by
          obtain ⟨b', o', v', e', _, hv', hc', hp'⟩ := hr.cell htm
          cases e'
          rw [hv1] at hv'
          cases hv'
          exact ⟨hc', hp'⟩
        have HR2 : Hid (∀ W, TRd W W.heap.size (some ⟨b2, o2, none⟩) m c2 vs2 → (∀ (j : Nat) u, v2.cells[j]? = some u → W.cell? ⟨b2, o2 + (t * 7 + j), none⟩ = some u) ∧ PRd W W.heap.size v2.A v2.n v2.c v1.t.pairs) := Lib.hid fun W hr => by
          obtain ⟨b', o', v', e', _, hv', hc', hp'⟩ := hr.cell htm
          cases e'
          rw [hv2] at hv'
          cases hv'
          rw [hkk] at hp'
          exact ⟨hc', hp'⟩
        clear hb1 hv1 hc1 hp1 hb2 hv2 hc2 hk1 hk2
        have hvn : v1.n = v2.n := by
          have a := (HR1.out _ HJ.out.2.1).2.len
          have b := (HR2.out _ HJ.out.2.2).2.len
          omega
        have hvl : v2.n ≤ 1000000 := by
          have b := (HR2.out _ HJ.out.2.2).2.len
          omega
        obtain ⟨k, kA, kn, kc⟩ := v1
        obtain ⟨k2, jA, jn, jc⟩ := v2
        simp only at hkk hvn hvl hpl
        subst hkk hvn
        clear hp2
        simp only at HR1 HR2
        have z0 : wr.cell? ⟨b1, o1 + t * 7, none⟩ = some (.int .i64 k2.kind) := by rw [show o1 + t * 7 = o1 + (t * 7 + 0) by omega]; exact (HR1.out _ HJ.out.2.1).1 0 _ rfl
        have z1 : wr.cell? ⟨b1, o1 + t * 7 + 1, none⟩ = some (.int .i64 k2.fro) := by rw [show o1 + t * 7 + 1 = o1 + (t * 7 + 1) by omega]; exact (HR1.out _ HJ.out.2.1).1 1 _ rfl
        have z2 : wr.cell? ⟨b1, o1 + t * 7 + 2, none⟩ = some (.int .i64 k2.to_) := by rw [show o1 + t * 7 + 2 = o1 + (t * 7 + 2) by omega]; exact (HR1.out _ HJ.out.2.1).1 2 _ rfl
        have z3 : wr.cell? ⟨b1, o1 + t * 7 + 3, none⟩ = some (.string ⟨k2.name.toArray⟩) := by rw [show o1 + t * 7 + 3 = o1 + (t * 7 + 3) by omega]; exact (HR1.out _ HJ.out.2.1).1 3 _ rfl
        have z4 : wr.cell? ⟨b1, o1 + t * 7 + 4, none⟩ = some (.string ⟨k2.text.toArray⟩) := by rw [show o1 + t * 7 + 4 = o1 + (t * 7 + 4) by omega]; exact (HR1.out _ HJ.out.2.1).1 4 _ rfl
        have z5 : wr.cell? ⟨b1, o1 + t * 7 + 5, none⟩ = some (.slice kA kn kc) := by rw [show o1 + t * 7 + 5 = o1 + (t * 7 + 5) by omega]; exact (HR1.out _ HJ.out.2.1).1 5 _ rfl
        have z6 : wr.cell? ⟨b1, o1 + t * 7 + 6, none⟩ = some (.int .i64 k2.r) := by rw [show o1 + t * 7 + 6 = o1 + (t * 7 + 6) by omega]; exact (HR1.out _ HJ.out.2.1).1 6 _ rfl
        have HSC : Hid (∀ w', (Below w.heap.size w w' ∧ TRd w' w'.heap.size (some ⟨b1, o1, none⟩) m c1 vs1 ∧ TRd w' w'.heap.size (some ⟨b2, o2, none⟩) m c2 vs2 ∧ w'.heap[wr.heap.size]? = some (.cells #[.int .i64 k2.kind, .int .i64 k2.fro, .int .i64 k2.to_, .string ⟨k2.name.toArray⟩, .string ⟨k2.text.toArray⟩, .slice kA kn kc, .int .i64 k2.r] 26)) → w'.cell? ⟨wr.heap.size, 0, none⟩ = some (.int .i64 k2.kind) ∧ w'.cell? ⟨wr.heap.size, 1, none⟩ = some (.int .i64 k2.fro) ∧ w'.cell? ⟨wr.heap.size, 2, none⟩ = some (.int .i64 k2.to_) ∧ w'.cell? ⟨wr.heap.size, 3, none⟩ = some (.string ⟨k2.name.toArray⟩) ∧ w'.cell? ⟨wr.heap.size, 4, none⟩ = some (.string ⟨k2.text.toArray⟩) ∧ w'.cell? ⟨wr.heap.size, 5, none⟩ = some (.slice kA kn kc) ∧ w'.cell? ⟨wr.heap.size, 6, none⟩ = some (.int .i64 k2.r) ∧ w'.cell? ⟨b2, o2 + t * 7, none⟩ = some (.int .i64 k2.kind) ∧ w'.cell? ⟨b2, o2 + t * 7 + 1, none⟩ = some (.int .i64 k2.fro) ∧ w'.cell? ⟨b2, o2 + t * 7 + 2, none⟩ = some (.int .i64 k2.to_) ∧ w'.cell? ⟨b2, o2 + t * 7 + 3, none⟩ = some (.string ⟨k2.name.toArray⟩) ∧ w'.cell? ⟨b2, o2 + t * 7 + 4, none⟩ = some (.string ⟨k2.text.toArray⟩) ∧ w'.cell? ⟨b2, o2 + t * 7 + 5, none⟩ = some (.slice jA kn jc) ∧ w'.cell? ⟨b2, o2 + t * 7 + 6, none⟩ = some (.int .i64 k2.r)) := Lib.hid fun w' J => by
          have g2 := (HR2.out w' J.2.2.1).1
          exact ⟨cell_of 0 J.2.2.2, cell_of 1 J.2.2.2, cell_of 2 J.2.2.2, cell_of 3 J.2.2.2, cell_of 4 J.2.2.2, cell_of 5 J.2.2.2, cell_of 6 J.2.2.2, by rw [show o2 + t * 7 = o2 + (t * 7 + 0) by omega]; exact g2 0 _ rfl, by rw [show o2 + t * 7 + 1 = o2 + (t * 7 + 1) by omega]; exact g2 1 _ rfl, by rw [show o2 + t * 7 + 2 = o2 + (t * 7 + 2) by omega]; exact g2 2 _ rfl, by rw [show o2 + t * 7 + 3 = o2 + (t * 7 + 3) by omega]; exact g2 3 _ rfl, by rw [show o2 + t * 7 + 4 = o2 + (t * 7 + 4) by omega]; exact g2 4 _ rfl, by rw [show o2 + t * 7 + 5 = o2 + (t * 7 + 5) by omega]; exact g2 5 _ rfl, by rw [show o2 + t * 7 + 6 = o2 + (t * 7 + 6) by omega]; exact g2 6 _ rfl⟩
        have CS : Hid (∀ W, Hid (Below w.heap.size w W ∧ TRd W W.heap.size (some ⟨b1, o1, none⟩) m c1 vs1 ∧ TRd W W.heap.size (some ⟨b2, o2, none⟩) m c2 vs2 ∧ W.heap[wr.heap.size]? = some (.cells #[.int .i64 k2.kind, .int .i64 k2.fro, .int .i64 k2.to_, .string ⟨k2.name.toArray⟩, .string ⟨k2.text.toArray⟩, .slice kA kn kc, .int .i64 k2.r] 26)) → Calls Tryz.prog 12 #[.agg #[.int .i64 k2.kind, .int .i64 k2.fro, .int .i64 k2.to_, .string ⟨k2.name.toArray⟩, .string ⟨k2.text.toArray⟩, .slice kA kn kc, .int .i64 k2.r], .agg #[.int .i64 k2.kind, .int .i64 k2.fro, .int .i64 k2.to_, .string ⟨k2.name.toArray⟩, .string ⟨k2.text.toArray⟩, .slice jA kn jc, .int .i64 k2.r]] W fun e w' => e = .returned (.bool true) ∧ Hid (Below w.heap.size w w' ∧ TRd w' w'.heap.size (some ⟨b1, o1, none⟩) m c1 vs1 ∧ TRd w' w'.heap.size (some ⟨b2, o2, none⟩) m c2 vs2 ∧ w'.heap[wr.heap.size]? = some (.cells #[.int .i64 k2.kind, .int .i64 k2.fro, .int .i64 k2.to_, .string ⟨k2.name.toArray⟩, .string ⟨k2.text.toArray⟩, .slice kA kn kc, .int .i64 k2.r] 26)) ∧ w'.cell? ⟨wr.heap.size, 0, none⟩ = some (.int .i64 k2.kind) ∧ w'.cell? ⟨wr.heap.size, 1, none⟩ = some (.int .i64 k2.fro) ∧ w'.cell? ⟨wr.heap.size, 2, none⟩ = some (.int .i64 k2.to_) ∧ w'.cell? ⟨wr.heap.size, 3, none⟩ = some (.string ⟨k2.name.toArray⟩) ∧ w'.cell? ⟨wr.heap.size, 4, none⟩ = some (.string ⟨k2.text.toArray⟩) ∧ w'.cell? ⟨wr.heap.size, 5, none⟩ = some (.slice kA kn kc) ∧ w'.cell? ⟨wr.heap.size, 6, none⟩ = some (.int .i64 k2.r) ∧ w'.cell? ⟨b2, o2 + t * 7, none⟩ = some (.int .i64 k2.kind) ∧ w'.cell? ⟨b2, o2 + t * 7 + 1, none⟩ = some (.int .i64 k2.fro) ∧ w'.cell? ⟨b2, o2 + t * 7 + 2, none⟩ = some (.int .i64 k2.to_) ∧ w'.cell? ⟨b2, o2 + t * 7 + 3, none⟩ = some (.string ⟨k2.name.toArray⟩) ∧ w'.cell? ⟨b2, o2 + t * 7 + 4, none⟩ = some (.string ⟨k2.text.toArray⟩) ∧ w'.cell? ⟨b2, o2 + t * 7 + 5, none⟩ = some (.slice jA kn jc) ∧ w'.cell? ⟨b2, o2 + t * 7 + 6, none⟩ = some (.int .i64 k2.r)) := Lib.hid fun W hJ => (same11_c k2 kA jA kn kc jc W (HR1.out W hJ.out.2.1).2 (HR2.out W hJ.out.2.2.1).2 hvl).mono fun e w' ⟨he, hb⟩ => by
          have J : (Below w.heap.size w w' ∧ TRd w' w'.heap.size (some ⟨b1, o1, none⟩) m c1 vs1 ∧ TRd w' w'.heap.size (some ⟨b2, o2, none⟩) m c2 vs2 ∧ w'.heap[wr.heap.size]? = some (.cells #[.int .i64 k2.kind, .int .i64 k2.fro, .int .i64 k2.to_, .string ⟨k2.name.toArray⟩, .string ⟨k2.text.toArray⟩, .slice kA kn kc, .int .i64 k2.r] 26)) := ⟨hJ.out.1.trans (hb.mono hJ.out.1.size), hJ.out.2.1.up hb, hJ.out.2.2.1.up hb, (hb.block _ (lt_of hJ.out.2.2.2)).trans hJ.out.2.2.2⟩
          exact ⟨he, Lib.hid J, HSC.out w' J⟩
        have HJ3 : ∀ W, Hid (Below w.heap.size w W ∧ TRd W W.heap.size (some ⟨b1, o1, none⟩) m c1 vs1 ∧ TRd W W.heap.size (some ⟨b2, o2, none⟩) m c2 vs2 ∧ W.heap[wr.heap.size]? = some (.cells #[.int .i64 k2.kind, .int .i64 k2.fro, .int .i64 k2.to_, .string ⟨k2.name.toArray⟩, .string ⟨k2.text.toArray⟩, .slice kA kn kc, .int .i64 k2.r] 26)) → Hid (Below w.heap.size w W ∧ TRd W W.heap.size (some ⟨b1, o1, none⟩) m c1 vs1 ∧ TRd W W.heap.size (some ⟨b2, o2, none⟩) m c2 vs2) := fun W h => Lib.hid ⟨h.out.1, h.out.2.1, h.out.2.2.1⟩
        clear hpl hvl
        go_wp2_with fail
        have ka := (Below.refl _ wr).alloc (Nat.le_refl _) (.cells #[.int .i64 k2.kind, .int .i64 k2.fro, .int .i64 k2.to_, .string ⟨k2.name.toArray⟩, .string ⟨k2.text.toArray⟩, .slice kA kn kc, .int .i64 k2.r] 26)
        have HJd : Hid (Below w.heap.size w ((wr.alloc (.cells #[.int .i64 k2.kind, .int .i64 k2.fro, .int .i64 k2.to_, .string ⟨k2.name.toArray⟩, .string ⟨k2.text.toArray⟩, .slice kA kn kc, .int .i64 k2.r] 26)).drew) ∧ TRd ((wr.alloc (.cells #[.int .i64 k2.kind, .int .i64 k2.fro, .int .i64 k2.to_, .string ⟨k2.name.toArray⟩, .string ⟨k2.text.toArray⟩, .slice kA kn kc, .int .i64 k2.r] 26)).drew) ((wr.alloc (.cells #[.int .i64 k2.kind, .int .i64 k2.fro, .int .i64 k2.to_, .string ⟨k2.name.toArray⟩, .string ⟨k2.text.toArray⟩, .slice kA kn kc, .int .i64 k2.r] 26)).drew).heap.size (some ⟨b1, o1, none⟩) m c1 vs1 ∧ TRd ((wr.alloc (.cells #[.int .i64 k2.kind, .int .i64 k2.fro, .int .i64 k2.to_, .string ⟨k2.name.toArray⟩, .string ⟨k2.text.toArray⟩, .slice kA kn kc, .int .i64 k2.r] 26)).drew) ((wr.alloc (.cells #[.int .i64 k2.kind, .int .i64 k2.fro, .int .i64 k2.to_, .string ⟨k2.name.toArray⟩, .string ⟨k2.text.toArray⟩, .slice kA kn kc, .int .i64 k2.r] 26)).drew).heap.size (some ⟨b2, o2, none⟩) m c2 vs2 ∧ ((wr.alloc (.cells #[.int .i64 k2.kind, .int .i64 k2.fro, .int .i64 k2.to_, .string ⟨k2.name.toArray⟩, .string ⟨k2.text.toArray⟩, .slice kA kn kc, .int .i64 k2.r] 26)).drew).heap[wr.heap.size]? = some (.cells #[.int .i64 k2.kind, .int .i64 k2.fro, .int .i64 k2.to_, .string ⟨k2.name.toArray⟩, .string ⟨k2.text.toArray⟩, .slice kA kn kc, .int .i64 k2.r] 26)) := Lib.hid ⟨below_drewN' (n := 1) (HJ.out.1.trans (ka.mono HJ.out.1.size)), (HJ.out.2.1.up ka).drewN (k := 1), (HJ.out.2.2.up ka).drewN (k := 1), hp_new _ _⟩
        obtain ⟨x0, x1, x2, x3, x4, x5, x6, y0, y1, y2, y3, y4, y5, y6⟩ := HSC.out _ HJd.out
        clear ka z0 z1 z2 z3 z4 z5 z6
        generalize wr.alloc (.cells #[.int .i64 k2.kind, .int .i64 k2.fro, .int .i64 k2.to_, .string ⟨k2.name.toArray⟩, .string ⟨k2.text.toArray⟩, .slice kA kn kc, .int .i64 k2.r] 26) = V at *
        go_region_held3 (fun w' => w'.cell? ⟨wr.heap.size, 0, none⟩ = some (.int .i64 k2.kind) ∧ w'.cell? ⟨wr.heap.size, 1, none⟩ = some (.int .i64 k2.fro) ∧ w'.cell? ⟨wr.heap.size, 2, none⟩ = some (.int .i64 k2.to_) ∧ w'.cell? ⟨wr.heap.size, 3, none⟩ = some (.string ⟨k2.name.toArray⟩) ∧ w'.cell? ⟨wr.heap.size, 4, none⟩ = some (.string ⟨k2.text.toArray⟩) ∧ w'.cell? ⟨wr.heap.size, 5, none⟩ = some (.slice kA kn kc) ∧ w'.cell? ⟨wr.heap.size, 6, none⟩ = some (.int .i64 k2.r) ∧ w'.cell? ⟨b2, o2 + t * 7, none⟩ = some (.int .i64 k2.kind) ∧ w'.cell? ⟨b2, o2 + t * 7 + 1, none⟩ = some (.int .i64 k2.fro) ∧ w'.cell? ⟨b2, o2 + t * 7 + 2, none⟩ = some (.int .i64 k2.to_) ∧ w'.cell? ⟨b2, o2 + t * 7 + 3, none⟩ = some (.string ⟨k2.name.toArray⟩) ∧ w'.cell? ⟨b2, o2 + t * 7 + 4, none⟩ = some (.string ⟨k2.text.toArray⟩) ∧ w'.cell? ⟨b2, o2 + t * 7 + 5, none⟩ = some (.slice jA kn jc) ∧ w'.cell? ⟨b2, o2 + t * 7 + 6, none⟩ = some (.int .i64 k2.r) ∧ Hid (Below w.heap.size w w' ∧ TRd w' w'.heap.size (some ⟨b1, o1, none⟩) m c1 vs1 ∧ TRd w' w'.heap.size (some ⟨b2, o2, none⟩) m c2 vs2 ∧ w'.heap[wr.heap.size]? = some (.cells #[.int .i64 k2.kind, .int .i64 k2.fro, .int .i64 k2.to_, .string ⟨k2.name.toArray⟩, .string ⟨k2.text.toArray⟩, .slice kA kn kc, .int .i64 k2.r] 26))) (first | exact ⟨by assumption, by assumption, by assumption, by assumption, by assumption, by assumption, by assumption, by assumption, by assumption, by assumption, by assumption, by assumption, by assumption, by assumption, by assumption⟩) (first | (go_at_call 12; refine (CS.out _ (by assumption)).mono ?_; rintro e W2 ⟨rfl, HQ2, q0, q1, q2, q3, q4, q5, q6, q7, q8, q9, q10, q11, q12, q13⟩))
        go_wp2
        go_roundg (m - (t + 1))
        case measure => have := hg.out; omega
        case rel => exact ⟨t + 1, by go_num, by omega, Lib.hid (by omega), HJ3 _ (by assumption)⟩
      · have hti : ¬ (t : Int) < (m : Int) := by omega
        go_wp2
        go_ret
        exact ⟨rfl, HJ.out.1⟩
end Go.Proofs.YtmclngahdklfkaaGreatDoor
/- The law SweepOne. -/
namespace Go.Proofs.YtmclngahdklfkaaGreatDoor
open Go.ChangeShapes Go.WideShapes Go.ChangeAt Go.RowKit
set_option linter.unusedVariables false
theorem over_len (l : List UInt8) (whole : Bool) : ∀ (f : Nat) (acc : List TokL) (op : List (List UInt8)) (root : Bool) (t : Nat), t ≤ l.length → acc.length ≤ t → (overR l whole f acc op root t).1.length ≤ l.length
  | 0, acc, op, root, t, ht, ha => Nat.zero_le _
  | f + 1, acc, op, root, t, ht, ha => by
    by_cases htl : t < l.length
    · by_cases h0 : (nextOut l t).2 = 0
      · have h' : nextOut l t = ((nextOut l t).1, 0) := by rw [← h0]
        obtain ⟨_, u, hu, h1, h2⟩ := nextOut_ok l t htl h0
        generalize (nextOut l t).1 = x at h' hu
        cases hm : mayS whole op root x with
        | none => rw [over_no htl h' hm]; exact Nat.zero_le _
        | some y =>
          obtain ⟨op', root'⟩ := y
          rw [over_more htl h' hm hu]
          refine over_len l whole f _ op' root' u h2 ?_
          split
          · omega
          · simp; omega
      · rw [over_bad htl rfl h0]; exact Nat.zero_le _
    · cases hb : (!op.isEmpty || (whole && !root)) with
      | true => rw [over_open htl hb]; exact Nat.zero_le _
      | false => rw [over_end htl hb]; show acc.length ≤ _; omega
end Go.Proofs.YtmclngahdklfkaaGreatDoor
/- What a row's list of variables gives. -/
namespace Go.Proofs.YtmclngahdklfkaaGreatDoor
open Go.ChangeShapes Go.WideShapes Go.ChangeAt Go.RowKit
set_option linter.unusedVariables false
/-- The cells that a datum of numbers, strings, arrays and structs takes, by its type: none where the lay-out has a gap. -/
def flatL (P : Program) (fl : TypeId → DataW Unit → Option (List Value)) : Nat → List (TypeId × Nat) → List (DataW Unit) → Option (List Value)
  | _, [], [] => some []
  | off, (t, o) :: ts, d :: ds => if o = off then (fl t d).bind fun v => if v.length = P.cellsOf t then (flatL P fl (off + P.cellsOf t) ts ds).map (v ++ ·) else none else none
  | _, _, _ => none
def flatD (P : Program) : Nat → TypeId → DataW Unit → Option (List Value)
  | 0, _, _ => none
  | f + 1, t, d => match P.underlying t, d with
    | some (.int k), .lit (.int k' n) => if k' = k then some [.int k n] else none
    | some .string, .lit (.string l) => some [.string ⟨l.toArray⟩]
    | some (.struct fs), .agg ds => (flatL P (flatD P f) 0 (fs.toList.map fun f => (f.type, f.offset)) ds).bind fun v => if v.length = P.cellsOf t then some v else none
    | some (.array n e), .agg ds => (flatL P (flatD P f) 0 ((List.range n).map fun i => (e, i * P.cellsOf e)) ds).bind fun v => if v.length = P.cellsOf t then some v else none
    | _, _ => none
theorem mapM_map {α β γ : Type} (g : α → β) (f : β → Option γ) : ∀ l : List α, (l.map g).mapM f = l.mapM fun a => f (g a)
  | [] => rfl
  | a :: l => by simp [List.mapM_cons, mapM_map g f l]
theorem mapM_cons_some {α β : Type} {f : α → Option β} {a : α} {l : List α} {ys : List β} (h : (a :: l).mapM f = some ys) : ∃ y ys', f a = some y ∧ l.mapM f = some ys' ∧ ys = y :: ys' := by
  rw [List.mapM_cons] at h
  obtain ⟨y, hy, h⟩ := Option.bind_eq_some_iff.1 h
  obtain ⟨ys', hys, h⟩ := Option.bind_eq_some_iff.1 h
  exact ⟨y, ys', hy, hys, (Option.some.inj h).symm⟩
theorem flatL_mapM {P : Program} {w : World} {base : Nat} {sp : Nat → Bool} {held : Bool} {enc : TypeId × Value → Unit} {fuel f : Nat} {cs : List Value}
    (ih : ∀ t cs d p vs, DataW.trod enc P w base sp held fuel t cs = some (d, p) → flatD P f t d = some vs → cs = vs) :
    ∀ (ts : List (TypeId × Nat)) (xs : List (DataW Unit × List MemPlace)) (off : Nat) (vs : List Value),
      (ts.mapM fun x => DataW.trod enc P w base sp held fuel x.1 ((cs.drop x.2).take (P.cellsOf x.1))) = some xs → flatL P (flatD P f) off ts (xs.map (·.1)) = some vs → (cs.drop off).take vs.length = vs
  | [], xs, off, vs, hm, hf => by
    have : xs = [] := by simpa using hm.symm
    subst this
    simp [flatL] at hf
    subst hf
    simp
  | (t, o) :: ts, xs, off, vs, hm, hf => by
    obtain ⟨⟨d, p⟩, xs', hx, hm', rfl⟩ := mapM_cons_some hm
    simp only [List.map_cons, flatL] at hf
    split at hf
    · rename_i ho
      subst ho
      obtain ⟨v, hv, hf⟩ := Option.bind_eq_some_iff.1 hf
      split at hf
      · rename_i hl
        obtain ⟨vs', hvs, rfl⟩ := Option.map_eq_some_iff.1 hf
        have h1 := ih t _ d p v hx hv
        have h2 := flatL_mapM ih ts xs' _ vs' hm' hvs
        simp only at h1
        rw [List.length_append, List.take_add, hl, h1, List.drop_drop, h2]
      · cases hf
    · cases hf
theorem flat_trod {P : Program} {w : World} {base : Nat} {sp : Nat → Bool} {held : Bool} {enc : TypeId × Value → Unit} : ∀ (fuel f : Nat) (t : TypeId) (cs : List Value) (d : DataW Unit) (p : List MemPlace) (vs : List Value),
    DataW.trod enc P w base sp held fuel t cs = some (d, p) → flatD P f t d = some vs → cs = vs := by
  intro fuel
  induction fuel with
  | zero => intro f t cs d p vs h; simp [DataW.trod] at h
  | succ fuel ih =>
    intro f t cs d p vs h hf
    cases f with
    | zero => simp [flatD] at hf
    | succ f =>
      unfold flatD at hf
      split at hf
      · rename_i k k' n hu
        split at hf
        · rename_i hk
          subst hk
          obtain ⟨m, hc, he, _⟩ := DataW.trod_int hu h
          cases he
          rw [hc]
          exact Option.some.inj hf
        · cases hf
      · rename_i l hu
        obtain ⟨m, hc, he, _⟩ := DataW.trod_string hu h
        cases he
        rw [hc]
        exact Option.some.inj hf
      · rename_i fs ds hu
        simp only [DataW.trod, hu] at h
        split at h
        · rename_i hl
          obtain ⟨xs, hm, hx⟩ := Option.map_eq_some_iff.1 h
          simp only [Prod.mk.injEq, DataW.agg.injEq] at hx
          obtain ⟨rfl, _⟩ := hx
          obtain ⟨v, hv, hf⟩ := Option.bind_eq_some_iff.1 hf
          split at hf
          · rename_i hvl
            have h2 := flatL_mapM (cs := cs) (fun t cs d p vs => ih f t cs d p vs) (fs.toList.map fun f => (f.type, f.offset)) xs 0 v (by rw [mapM_map]; exact hm) hv
            rw [List.drop_zero, hvl, ← hl, List.take_length] at h2
            rw [h2]
            exact Option.some.inj hf
          · cases hf
        · cases h
      · rename_i n e ds hu
        simp only [DataW.trod, hu] at h
        split at h
        · rename_i hl
          obtain ⟨xs, hm, hx⟩ := Option.map_eq_some_iff.1 h
          simp only [Prod.mk.injEq, DataW.agg.injEq] at hx
          obtain ⟨rfl, _⟩ := hx
          obtain ⟨v, hv, hf⟩ := Option.bind_eq_some_iff.1 hf
          split at hf
          · rename_i hvl
            have h2 := flatL_mapM (cs := cs) (fun t cs d p vs => ih f t cs d p vs) ((List.range n).map fun i => (e, i * P.cellsOf e)) xs 0 v (by rw [mapM_map]; exact hm) hv
            rw [List.drop_zero, hvl, ← hl, List.take_length] at h2
            rw [h2]
            exact Option.some.inj hf
          · cases hf
        · cases h
      · cases hf
/-- A variable that is listed holds the cells of its datum. -/
theorem laid_cells {P : Program} {w : World} : ∀ (laid : List (String × DataW Unit)) (ps : List MemPlace), DataW.LaidVars P w laid ps → ∀ (name : String) (d : DataW Unit), (name, d) ∈ laid →
    ∀ (g t f : Nat) (vs : List Value), P.globalNamed name = some g → (P.globals[g]?).map (·.type) = some t → flatD P f t d = some vs → w.var? P name = some vs.toArray
  | [], _, _, _, _, hm, _, _, _, _, _, _, _ => by cases hm
  | (n, d0) :: r, ps, h, name, d, hm, g, t, f, vs, hg, ht, hf => by
    obtain ⟨g', t', cs, fuel, p, q, hg', ht', hv, htr, hr, _⟩ := h
    rcases List.mem_cons.1 hm with e | hm
    · cases e
      obtain rfl := Option.some.inj (hg.symm.trans hg')
      obtain rfl := Option.some.inj (ht.symm.trans ht')
      rw [hv, ← flat_trod fuel f t cs.toList _ p vs htr hf]
    · exact laid_cells r q hr name d hm g t f vs hg ht hf
theorem block_of_var {P : Program} {w : World} {name : String} {g : Nat} {cs : Array Value} (hg : P.globalNamed name = some g) (h : w.var? P name = some cs) : ∃ T f, w.heap[g]? = some (.cells cs T f) := by
  simp only [World.var?, hg, Option.bind_some] at h
  split at h
  · rename_i cs' T f hb
    cases h
    exact ⟨T, f, hb⟩
  · cases h
theorem laid_var {P : Program} {w : World} {laid : List (String × DataW Unit)} (h : laidMet P laid w) (name : String) (d : DataW Unit) (hm : (name, d) ∈ laid) (g f : Nat) (vs : List Value)
    (hg : P.globalNamed name = some g) (hf : (((P.globals[g]?).map (·.type)).bind fun t => flatD P f t d) = some vs) : w.var? P name = some vs.toArray := by
  obtain ⟨ps, hl, _⟩ := h
  obtain ⟨t, ht, hf⟩ := Option.bind_eq_some_iff.1 hf
  exact laid_cells laid ps hl name d hm g t f vs hg ht hf
theorem laid_block {P : Program} {w : World} {laid : List (String × DataW Unit)} (h : laidMet P laid w) (name : String) (d : DataW Unit) (hm : (name, d) ∈ laid) (g f : Nat) (vs : List Value)
    (hg : P.globalNamed name = some g) (hf : (((P.globals[g]?).map (·.type)).bind fun t => flatD P f t d) = some vs) : ∃ T fr, w.heap[g]? = some (.cells vs.toArray T fr) :=
  block_of_var hg (laid_var h name d hm g f vs hg hf)
/-- A table of runs, out of a block. -/
theorem tab_of {w : World} {g : Nat} {T : TypeId} {fr : Nat × Nat} (t : List (Nat × Nat)) (h : w.heap[g]? = some (.cells (t.flatMap fun p => [Value.int .i64 p.1, Value.int .i64 p.2]).toArray T fr)) : Tab w g t := by
  intro i p hp
  have key : ∀ (t : List (Nat × Nat)) (i : Nat) (p : Nat × Nat), t[i]? = some p → (t.flatMap fun p => [Value.int .i64 p.1, Value.int .i64 p.2])[i * 2]? = some (.int .i64 p.1) ∧ (t.flatMap fun p => [Value.int .i64 p.1, Value.int .i64 p.2])[i * 2 + 1]? = some (.int .i64 p.2) := by
    intro t
    induction t with
    | nil => intro i p h; simp at h
    | cons x t ih =>
      intro i p h
      cases i with
      | zero => simp at h; subst h; exact ⟨rfl, rfl⟩
      | succ i =>
        have := ih i p (by simpa using h)
        rw [show (i + 1) * 2 = i * 2 + 2 by omega]
        simpa [List.flatMap_cons] using this
  have := key t i p hp
  rw [cell_of _ h, cell_of _ h, List.getElem?_toArray, List.getElem?_toArray]
  exact this
/-- The cells of a datum, whatever its type. -/
def flatV : Nat → DataW Unit → List Value
  | f + 1, .lit (.int k n) => [.int k n]
  | f + 1, .lit (.string l) => [.string ⟨l.toArray⟩]
  | f + 1, .agg ds => ds.flatMap (flatV f)
  | _, _ => []
def layObj (vs : Array Value) : Obj → Obj
  | .cells _ t frozen => .cells vs t frozen
  | o => o
def layHeap (l : List (Nat × DataW Unit)) (h : Array Obj) : Array Obj := l.foldl (fun h x => h.modify x.1 (layObj (flatV 8 x.2).toArray)) h
end Go.Proofs.YtmclngahdklfkaaGreatDoor
/- A witness with slices, unicode.CaseRanges among them. -/
namespace Go.Proofs.YtmclngahdklfkaaGreatDoor
open Go.ChangeShapes Go.WideShapes Go.ChangeAt Go.RowKit
set_option linter.unusedVariables false
theorem LaidVars_split {P : Program} {w : World} : ∀ {l l' : List (String × DataW Unit)} {ps : List MemPlace}, DataW.LaidVars P w (l ++ l') ps → ∃ p p', DataW.LaidVars P w l p ∧ DataW.LaidVars P w l' p' ∧ ps = p ++ p'
  | [], l', ps, h => ⟨[], ps, rfl, h, rfl⟩
  | (n, d) :: r, l', ps, h => by
    obtain ⟨g, t, cs, fuel, p, q, h1, h2, h3, h4, h5, rfl⟩ := h
    obtain ⟨p1, p2, g1, g2, rfl⟩ := LaidVars_split h5
    exact ⟨_, p2, ⟨g, t, cs, fuel, p, p1, h1, h2, h3, h4, g1, rfl⟩, g2, by simp [List.append_assoc]⟩
/-- The last of the listed may stand anywhere. -/
theorem laidMet_move {P : Program} {w : World} {a b : List (String × DataW Unit)} {x : String × DataW Unit} (h : laidMet P (a ++ b ++ [x]) w) : laidMet P (a ++ x :: b) w := by
  obtain ⟨ps, hv, hn, hr⟩ := h
  obtain ⟨p1, px, h1, hx, rfl⟩ := LaidVars_split hv
  obtain ⟨pa, pb, ha, hb, rfl⟩ := LaidVars_split h1
  have hperm : (pa ++ pb ++ px).Perm (pa ++ (px ++ pb)) := by
    rw [List.append_assoc]
    exact List.Perm.append_left _ List.perm_append_comm
  refine ⟨pa ++ (px ++ pb), ?_, hperm.nodup_iff.1 hn, fun bb off hm => hr bb off (hperm.mem_iff.2 hm)⟩
  exact Go.Proofs.LaidVars_append ha (Go.Proofs.LaidVars_append (l := [x]) hx hb)
def putRows (N : Nat) : Nat → List (Nat × TypeId × Array Value × Nat) → Array Obj → Array Obj
  | _, [], h => h
  | i, (g, _, _, n) :: r, h => putRows N (i + 1) r (h.modify g (layObj #[.slice (some ⟨N + i, 0, none⟩) n n]))
/-- A world for a witness: the settled one, with a block more for each listed slice, the listed variables' blocks holding what is listed. -/
noncomputable def laidWorldC (l : List (Nat × DataW Unit)) (sl : List (Nat × TypeId × Array Value × Nat)) (os : Os) : World :=
  { World.holding Tryz.prog os ⟨(sl.map fun x => Obj.cells x.2.2.1 x.2.1).toArray, #[], []⟩ with heap := putRows (World.settled Tryz.prog os).heap.size 0 sl (layHeap l (World.holding Tryz.prog os ⟨(sl.map fun x => Obj.cells x.2.2.1 x.2.1).toArray, #[], []⟩).heap) }
theorem case_same : Go.Pinned.caseRanges = Lib.caseData := by kernel_rfl
theorem laidMet_case {w : World} {a b : List (String × DataW Unit)} (fuel : Nat)
    (h : (DataW.laidRun Tryz.prog w fuel ((a ++ b).map (·.1))).map (·.1) = some (a ++ b))
    (hn : (DataW.laidRun Tryz.prog w fuel ((a ++ b).map (·.1))).map (fun x => nodupB (x.2.map MemPlace.codeOf)) = some true)
    (hr : (DataW.laidRun Tryz.prog w fuel ((a ++ b).map (·.1))).map (fun x => laidRowsB Tryz.prog w x.2) = some true)
    (R : Nat) (hgR : 7 ≠ R)
    (hoff : (DataW.laidRun Tryz.prog w fuel ((a ++ b).map (·.1))).map (fun x => x.2.all fun p => p.block != 7 && p.block != R) = some true)
    (hvar : w.heap[7]? = some (.cells #[.slice (some ⟨R, 0, none⟩) 336 336] 200 (0, 0)))
    (hblk : w.heap[R]? = some (.cells Lib.caseCells5 213 (0, 0))) :
    laidMet Tryz.prog (a ++ ("unicode.CaseRanges", Go.Pinned.caseRanges) :: b) w := by
  rw [case_same]
  exact laidMet_move (laidMet_with_case (ρ := ⟨Tryz.lays274_ren.f, Tryz.lays274_ren.t, fun _ => 7⟩) { Tryz.lays274 with } (by kernel_rfl) ⟨by kernel_rfl, by kernel_rfl, by kernel_rfl, by kernel_rfl, by kernel_rfl, by kernel_rfl⟩ fuel h hn hr R _ hgR hoff (by rw [show Lib.caseA.size = 336 by kernel_rfl]; exact hvar) hblk)
end Go.Proofs.YtmclngahdklfkaaGreatDoor
