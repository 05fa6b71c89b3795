/- The law AttvalMakes. -/
import Derived.Test.YtfemfgkcgboopaaGreatDoorRows
import Derived.WalkKit
import Derived.ProofKit
import Derived.OpenShut
import Derived.ShutString
import Derived.ChangeOld
import Derived.Below
import Derived.BigQuiet
import Derived.Deep.QuietTactic
import Derived.Lib.Hide
import Derived.Deep.RegionHeld3
import Derived.Lib.SlBytesConst
import Derived.Laws.CopyOwn
import Derived.Laws.CopyRow
import Derived.Lib.Bytes
import Derived.Deep.LoopGhost
import Derived.Deep.DeepFit
import Derived.Deep.DeepMust
import Derived.WalkSpells
import Derived.WalkLawsBesides
import Derived.Laws.EntriesVeiled
import Derived.Laws.Rows
import Derived.Maps.OwnOps
import Derived.Maps.OwnSet
import Derived.Maps.Views
import Derived.Maps.AppendAt
import Derived.Deep.AppendLies
import Derived.DeepKeys4
import Derived.MapViews
import Derived.Maps.Keyed
import Derived.Deep.RegionLaw
import Derived.Deep.RegionWith
import Derived.StillTailTactics
import Derived.Deep.CutRange
import Derived.Test.YtfemfgkcgboopaaGreatDoorQ1
import Derived.Test.YtfemfgkcgboopaaGreatDoorQ13
import Derived.Test.YtfemfgkcgboopaaGreatDoorQ16
import Derived.Test.YtfemfgkcgboopaaGreatDoorQ2
import Derived.Test.YtfemfgkcgboopaaGreatDoorQ3
import Derived.Test.YtfemfgkcgboopaaGreatDoorQ4
import Derived.Test.YtfemfgkcgboopaaGreatDoorQ9
import Derived.Test.YtfemfgkcgboopaaGreatDoorQ15
import Derived.Test.YtfemfgkcgboopaaGreatDoorQ14
import Derived.Test.YtfemfgkcgboopaaGreatDoorQ10
import Derived.Test.YtfemfgkcgboopaaGreatDoorQ17
import Derived.Test.YtfemfgkcgboopaaGreatDoorQ23
import Derived.Test.YtfemfgkcgboopaaGreatDoorQ24
import Derived.Test.YtfemfgkcgboopaaGreatDoorQ19
import Derived.Test.YtfemfgkcgboopaaGreatDoorQ20
import Derived.Test.YtfemfgkcgboopaaGreatDoorQ32
import Derived.Test.YtfemfgkcgboopaaGreatDoorQ26
import Derived.Test.YtfemfgkcgboopaaGreatDoorQ33
import Derived.Test.YtfemfgkcgboopaaGreatDoorQ34
import Derived.Test.YtfemfgkcgboopaaGreatDoorQ18
import Derived.Test.YtfemfgkcgboopaaGreatDoorQ25
import Derived.Test.YtfemfgkcgboopaaGreatDoorQ29
import Derived.Test.YtfemfgkcgboopaaGreatDoorQ27
import Derived.Test.YtfemfgkcgboopaaGreatDoorQ28
import Derived.Test.YtfemfgkcgboopaaGreatDoorQ30
import Derived.Test.YtfemfgkcgboopaaGreatDoorQ21
import Derived.Test.YtfemfgkcgboopaaGreatDoorQ22
import Derived.Test.YtfemfgkcgboopaaGreatDoorQ31
import Derived.Test.YtfemfgkcgboopaaGreatDoorQ36
import Derived.Test.YtfemfgkcgboopaaGreatDoorQ37
namespace Go.Proofs.YtfemfgkcgboopaaGreatDoor
open Go.ChangeShapes Go.WideShapes Go.ChangeAt Go.RowKit
set_option linter.unusedVariables false
set_option maxRecDepth 100000 in
theorem fldCost (a b c : Int) (W : World) : (Instr.field 27 (.agg #[.int .i64 a, .int .i64 b, .int .i64 c]) 0).run Tryz.prog W = .ok (.int .i64 a) W := by
  kernel_rfl
set_option maxRecDepth 100000 in
set_option maxHeartbeats 16000000 in
/-- The law. -/
theorem attvalMakes_walk (A : Option Addr) (n cap : Nat) (l : List EntT) (raw : List UInt8) (kind deep : Int) (w : World) (h : RRd cE 6 w w.heap.size A n cap l) (hx : ∀ x ∈ l, x.tx.length ≤ 281474976710656) (hnm : ∀ x ∈ l, x.nm.length ≤ 1000000000000000) (hF : Forms w) (hT : Tabs w) (hK : KnownT w) :
    Calls Tryz.prog 3 #[.slice A n cap, .agg #[.string ⟨raw.toArray⟩, .int .i64 kind, .int .i64 deep]] w fun e w' => e = .returned (.bool true) ∧ Below w.heap.size w w' := by
  have hln := h.len
  have HP : Hid (∀ W, Below w.heap.size w W → RRd cE 6 W W.heap.size A n cap l) := Lib.hid fun W hb => (h.below hb).more hb.size
  have J0 := Lib.hid (CJ.start 24 w #[.string ⟨raw.toArray⟩, .int .i64 kind, .int .i64 deep])
  have CM := Lib.hid (rfMuch_c A n cap l _ (HP.out _ J0.out.1) hx)
  have LV : Hid (∀ W, Below w.heap.size w W → Calls Tryz.prog 9 #[] W fun e w' => e = .returned (.bool true) ∧ Below W.heap.size W w') := Lib.hid fun W hW => live27_c W (hF.below hW hF.lt) (hT.below hW (hT.low hF)) (hK.below hW)
  have HCW : Hid (∀ W, CJ 24 w W #[.string ⟨raw.toArray⟩, .int .i64 kind, .int .i64 deep] → W.cell? ⟨w.heap.size, 0, none⟩ = some (.string ⟨raw.toArray⟩) ∧ W.cell? ⟨w.heap.size, 1, none⟩ = some (.int .i64 kind) ∧ W.cell? ⟨w.heap.size, 2, none⟩ = some (.int .i64 deep)) := Lib.hid fun W hW => ⟨by rw [cell_of 0 hW.2]; rfl, by rw [cell_of 1 hW.2]; rfl, by rw [cell_of 2 hW.2]; rfl⟩
  obtain ⟨u0, u1, u2⟩ := HCW.out _ J0.out
  have hsz : (⟨raw.toArray⟩ : ByteArray).size = raw.length := by simp [ByteArray.size]
  cases hmu : muchE l with
  | true =>
    rw [hmu] at CM
    clear h hx hnm hF hT hK hmu HP
    go_enter Tryz.func3, Tryz.ntmps3
    go_wp2_with fail
    refine (CM.out).mono ?_
    rintro e w1 ⟨rfl, hb⟩
    have J1 := Lib.hid (J0.out.kept hb)
    clear hb u0 u1 u2
    obtain ⟨u0, u1, u2⟩ := HCW.out _ J1.out
    go_wp2_with fail
    refine (LV.out _ J1.out.1).mono ?_
    rintro e wl ⟨rfl, hb⟩
    have HBL := Lib.hid (J1.out.1.trans (hb.mono J1.out.1.size))
    clear hb
    go_wp2
    go_ret
    exact ⟨rfl, HBL.out⟩
  | false =>
    rw [hmu] at CM
    obtain ⟨hs1, hs2, hs3⟩ := much_small hmu
    have CL : Hid (∀ W, Below w.heap.size w W → Calls Tryz.prog 7 #[.slice A n cap] W fun e w' => ∃ b : Bool, e = .returned (.bool b) ∧ (b = true ↔ loopsE l) ∧ Below W.heap.size W w') := Lib.hid fun W hW => rfLoops_c A n cap l W (HP.out W hW) (by omega) (fun x hx2 => by have := hs3 x hx2; omega)
    by_cases hv2 : raw.length ≤ 300
    · have hvi : ¬ ((300 : Int) < (raw.length : Int)) := by omega
      have CO : Hid (∀ W, Below w.heap.size w W → Calls Tryz.prog 8 #[.slice A n cap, .string ⟨raw.toArray⟩] W fun e w' => ∃ L Dd : Nat, e = .returned (.agg #[.int .i64 (costL l raw : Nat), .int .i64 (L : Nat), .int .i64 (Dd : Nat)]) ∧ Below W.heap.size W w') := Lib.hid fun W hW => rfCost_c A n cap l raw W (HP.out W hW) (by omega) (fun x hx2 => by have := hs3 x hx2; omega) (by omega)
      have BC : Hid ((¬ loopsE l → costL l raw ≤ 20000) → ∃ (v : List UInt8) (e2 : Nat), ∀ W, Below w.heap.size w W →
          Calls Tryz.prog 10 #[.slice A n cap, .string ⟨raw.toArray⟩, .int .i64 kind, .int .i64 deep] W (fun e w' => e = .returned (.tuple #[.string ⟨v.toArray⟩, .int .i64 (e2 : Nat)]) ∧ Below W.heap.size W w') ∧
          Calls Tryz.prog 11 #[.slice A n cap, .string ⟨raw.toArray⟩, .int .i64 kind, .int .i64 deep] W (fun e w' => e = .returned (.tuple #[.string ⟨v.toArray⟩, .int .i64 (e2 : Nat)]) ∧ Below W.heap.size W w')) :=
        Lib.hid fun hc => both_c A n cap l raw kind deep w h (by omega) hs2 hs3 hnm (by omega) hF hT hK hc
      have hcl9 : costL l raw ≤ 9223372036854775807 := satN_le _
      clear h hx hnm hF hT hK hmu hs1 hs2 hs3
      go_enter Tryz.func3, Tryz.ntmps3
      go_wp2_with fail
      refine (CM.out).mono ?_
      rintro e w1 ⟨rfl, hb⟩
      have J1 := Lib.hid (J0.out.kept hb)
      clear hb u0 u1 u2
      obtain ⟨u0, u1, u2⟩ := HCW.out _ J1.out
      clear CM
      go_wp2_with fail
      refine (CL.out _ J1.out.1).mono ?_
      rintro e w2 ⟨bl, rfl, hbl, hb⟩
      have J2 := Lib.hid (J1.out.kept hb)
      have HBL2 := Lib.hid hbl
      clear hb hbl u0 u1 u2 CL J1
      obtain ⟨u0, u1, u2⟩ := HCW.out _ J2.out
      cases bl with
      | true =>
        obtain ⟨v, e2, hvv⟩ := BC.out (fun hn => absurd (HBL2.out.1 rfl) hn)
        have HVV := Lib.hid hvv
        clear hvv BC CO
        go_wp2_with fail
        refine ((HVV.out _ J2.out.1).1).mono ?_
        rintro e w3 ⟨rfl, hb⟩
        have J3 := Lib.hid (J2.out.kept hb)
        clear hb u0 u1 u2
        obtain ⟨u0, u1, u2⟩ := HCW.out _ J3.out
        go_wp2_with fail
        refine ((HVV.out _ J3.out.1).2).mono ?_
        rintro e w4 ⟨rfl, hb⟩
        have J4 := Lib.hid (J3.out.kept hb)
        clear hb u0 u1 u2
        obtain ⟨u0, u1, u2⟩ := HCW.out _ J4.out
        go_wp2_with fail
        refine (LV.out _ J4.out.1).mono ?_
        rintro e wl ⟨rfl, hb⟩
        have HBL := Lib.hid (J4.out.1.trans (hb.mono J4.out.1.size))
        clear hb
        go_wp2
        go_ret
        exact ⟨rfl, HBL.out⟩
      | false =>
        go_wp2_with fail
        refine (CO.out _ J2.out.1).mono ?_
        rintro e w3 ⟨L, Dd, rfl, hb⟩
        have hfd := fun W => fldCost (costL l raw : Nat) L Dd W
        have J3 := Lib.hid (J2.out.kept hb)
        clear hb u0 u1 u2
        obtain ⟨u0, u1, u2⟩ := HCW.out _ J3.out
        by_cases hco : costL l raw ≤ 20000
        · obtain ⟨v, e2, hvv⟩ := BC.out (fun _ => hco)
          have HVV := Lib.hid hvv
          have hci : ¬ (20000 : Int) < (costL l raw : Int) := by omega
          clear hvv BC CO hco
          generalize costL l raw = cl at *
          go_wp2_with fail
          refine ((HVV.out _ J3.out.1).1).mono ?_
          rintro e w4 ⟨rfl, hb⟩
          have J4 := Lib.hid (J3.out.kept hb)
          clear hb u0 u1 u2
          obtain ⟨u0, u1, u2⟩ := HCW.out _ J4.out
          go_wp2_with fail
          refine ((HVV.out _ J4.out.1).2).mono ?_
          rintro e w5 ⟨rfl, hb⟩
          have J5 := Lib.hid (J4.out.kept hb)
          clear hb u0 u1 u2
          obtain ⟨u0, u1, u2⟩ := HCW.out _ J5.out
          go_wp2_with fail
          refine (LV.out _ J5.out.1).mono ?_
          rintro e wl ⟨rfl, hb⟩
          have HBL := Lib.hid (J5.out.1.trans (hb.mono J5.out.1.size))
          clear hb
          go_wp2
          go_ret
          exact ⟨rfl, HBL.out⟩
        · have hci : (20000 : Int) < (costL l raw : Int) := by omega
          clear BC CO hco
          generalize costL l raw = cl at *
          go_wp2_with fail
          refine (LV.out _ J3.out.1).mono ?_
          rintro e wl ⟨rfl, hb⟩
          have HBL := Lib.hid (J3.out.1.trans (hb.mono J3.out.1.size))
          clear hb
          go_wp2
          go_ret
          exact ⟨rfl, HBL.out⟩
    · have hvi : (300 : Int) < (raw.length : Int) := by omega
      clear h hx hnm hF hT hK hmu hs1 hs2 hs3 CL HP
      go_enter Tryz.func3, Tryz.ntmps3
      go_wp2_with fail
      refine (CM.out).mono ?_
      rintro e w1 ⟨rfl, hb⟩
      have J1 := Lib.hid (J0.out.kept hb)
      clear hb u0 u1 u2
      obtain ⟨u0, u1, u2⟩ := HCW.out _ J1.out
      go_wp2_with fail
      refine (LV.out _ J1.out.1).mono ?_
      rintro e wl ⟨rfl, hb⟩
      have HBL := Lib.hid (J1.out.1.trans (hb.mono J1.out.1.size))
      clear hb
      go_wp2
      go_ret
      exact ⟨rfl, HBL.out⟩
theorem attvalMakes_law (A : Option Addr) (n cap : Nat) (l : List EntT) (rb : ByteArray) (kind deep : Int) (w : World) (h : RRd cE 6 w w.heap.size A n cap l) (hm : n ≤ 1048576) (hl : ∀ x ∈ l, EntLe 1048576 x) (hF : Forms w) (hT : Tabs w) (hK : KnownT w) :
    Calls Tryz.prog 3 #[.slice A n cap, .agg #[.string rb, .int .i64 kind, .int .i64 deep]] w fun e w' => e = .returned (.bool true) ∧ Below w.heap.size w w' := by
  obtain ⟨v, rfl⟩ : ∃ l : List UInt8, rb = ⟨l.toArray⟩ := ⟨rb.data.toList, by simp⟩
  exact attvalMakes_walk A n cap l v kind deep w h (fun x hx => by have := (hl x hx).2; omega) (fun x hx => by have := (hl x hx).1; omega) hF hT hK
end Go.Proofs.YtfemfgkcgboopaaGreatDoor
