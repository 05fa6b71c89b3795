/- sweep.may at begins and ends. -/
import Derived.Test.YtmclngahdklfkaaGreatDoorRows
import Derived.Test.YtmclngahdklfkaaGreatDoorQX
import Derived.WalkKit
import Derived.ProofKit
import Derived.OpenShut
import Derived.ShutString
import Derived.ChangeOld
import Derived.Below
import Derived.BigQuiet
import Derived.Deep.QuietTactic
import Derived.Lib.Hide
import Derived.Deep.RegionHeld3
import Derived.Lib.SlBytesConst
import Derived.Laws.CopyOwn
import Derived.Laws.CopyRow
import Derived.Lib.Bytes
import Derived.Deep.LoopGhost
import Derived.Deep.DeepFit
import Derived.Deep.DeepMust
import Derived.WalkSpells
import Derived.WalkLawsBesides
import Derived.Maps.OwnOps
import Derived.Maps.OwnSet
import Derived.Maps.Views
import Derived.Laws.EntriesVeiled
import Derived.Laws.Rows
import Derived.Maps.AppendAt
import Derived.Lib.SmallJoins
import Derived.Deep.AppendLies
import Derived.Deep.RegionLaw
import Derived.Deep.RegionWith
import Derived.Deep.RegionWith
import Derived.Test.YtmclngahdklfkaaGreatDoorQ1
import Derived.Test.YtmclngahdklfkaaGreatDoorQ6
import Derived.Test.YtmclngahdklfkaaGreatDoorQ2
import Derived.Test.YtmclngahdklfkaaGreatDoorQ4
import Derived.Test.YtmclngahdklfkaaGreatDoorQ5
import Derived.Test.YtmclngahdklfkaaGreatDoorQ8
import Derived.Test.YtmclngahdklfkaaGreatDoorQ9
import Derived.Test.YtmclngahdklfkaaGreatDoorQ10
import Derived.Test.YtmclngahdklfkaaGreatDoorQ11
import Derived.Test.YtmclngahdklfkaaGreatDoorQ12
import Derived.Test.YtmclngahdklfkaaGreatDoorQ13
import Derived.Test.YtmclngahdklfkaaGreatDoorQ14
import Derived.Test.YtmclngahdklfkaaGreatDoorQ15
import Derived.Test.YtmclngahdklfkaaGreatDoorQ16
import Derived.Test.YtmclngahdklfkaaGreatDoorQ17
import Derived.Test.YtmclngahdklfkaaGreatDoorQ18
import Derived.Test.YtmclngahdklfkaaGreatDoorQ19
import Derived.Test.YtmclngahdklfkaaGreatDoorQ20
import Derived.Test.YtmclngahdklfkaaGreatDoorQ21
import Derived.Test.YtmclngahdklfkaaGreatDoorQ24
import Derived.Test.YtmclngahdklfkaaGreatDoorQ22
import Derived.Test.YtmclngahdklfkaaGreatDoorQ23
import Derived.Test.YtmclngahdklfkaaGreatDoorQ7
import Derived.Test.YtmclngahdklfkaaGreatDoorQ25
import Derived.Test.YtmclngahdklfkaaGreatDoorTok9
import Derived.Test.YtmclngahdklfkaaGreatDoorTok10
import Derived.Test.YtmclngahdklfkaaGreatDoorTok10b
import Derived.Test.YtmclngahdklfkaaGreatDoorTokQ
import Derived.Test.YtmclngahdklfkaaGreatDoorSwP
import Derived.Test.YtmclngahdklfkaaGreatDoorSw1
import Derived.Test.YtmclngahdklfkaaGreatDoorSw2
namespace Go.Proofs.YtmclngahdklfkaaGreatDoor
open Go.ChangeShapes Go.WideShapes Go.ChangeAt Go.RowKit
set_option linter.unusedVariables false
set_option maxRecDepth 100000 in
set_option maxHeartbeats 8000000 in
theorem may_k9 (sb base : Nat) (whole : Bool) (W : World) (sv : Value) (op : List (List UInt8)) (root : Bool) (fro to_ rr : Int) (name text : List UInt8) (ps : List PairL) (A : Option Addr) (n c : Nat) (hJ : SwJ sb base whole W sv op root) (hop : op.length ≤ 1000000) :
    Calls Tryz.prog 73 #[.pointer (some ⟨sb, 0, none⟩), .agg #[.int .i64 9, .int .i64 fro, .int .i64 to_, .string ⟨name.toArray⟩, .string ⟨text.toArray⟩, .slice A n c, .int .i64 rr]] W fun e w' => MayPost sb base whole W sv (mayS whole op root ⟨9, fro, to_, name, text, ps, rr⟩) e w' := by
  have ka := (Below.refl _ W).alloc (Nat.le_refl _) (.cells #[.int .i64 9, .int .i64 fro, .int .i64 to_, .string ⟨name.toArray⟩, .string ⟨text.toArray⟩, .slice A n c, .int .i64 rr] 26)
  have hJ1 := hJ.kept ka
  have hM1 : MF sb W (W.alloc (.cells #[.int .i64 9, .int .i64 fro, .int .i64 to_, .string ⟨name.toArray⟩, .string ⟨text.toArray⟩, .slice A n c, .int .i64 rr] 26)) sv sv := MF.ofBelow ka (by have := hJ.lt; have := hJ.le; omega)
  have q3 := hp_new W (.cells #[.int .i64 9, .int .i64 fro, .int .i64 to_, .string ⟨name.toArray⟩, .string ⟨text.toArray⟩, .slice A n c, .int .i64 rr] 26)
  have HInv := Lib.hid hJ.inv
  have hsW : sb < W.heap.size := by have := hJ.lt; have := hJ.le; omega
  obtain ⟨SA, SN, SC, hsv, hSN⟩ : ∃ SA SN SC, sv = .slice SA SN SC ∧ SN = op.length := by
    obtain ⟨a, b, h⟩ := hJ.own.form
    exact ⟨a, _, b, h, rfl⟩
  subst hsv
  have hSNb : (SN : Int) ≤ 1000000 := by omega
  clear hJ ka
  obtain ⟨V, hV⟩ : ∃ V, W.alloc (.cells #[.int .i64 9, .int .i64 fro, .int .i64 to_, .string ⟨name.toArray⟩, .string ⟨text.toArray⟩, .slice A n c, .int .i64 rr] 26) = V := ⟨_, rfl⟩
  rw [hV] at hJ1 hM1 q3
  have HJ1 := Lib.hid hJ1
  have HM1 := Lib.hid hM1
  have HQ3 := Lib.hid q3
  cases whole with
  | false =>
    have hsw : V.heap[sb]? = some (.cells #[.slice SA SN SC, .int .i64 0, .bool false] 78) := by have := HJ1.out.sw; simpa using this
    have z0 := cell_of 0 hsw
    have z1 := cell_of 1 hsw
    have z2 := cell_of 2 hsw
    have y1 := free_of 1 hsw
    clear hSN
    clear hSNb
    have HOP := Lib.hid hop
    clear hop
    have x0 := cell_of 0 HQ3.out
    have x3 := cell_of 3 HQ3.out
    have x4 := cell_of 4 HQ3.out
    clear hJ1 hM1
    by_cases hl : op.getLast? = some name
    · obtain ⟨op2, hop2⟩ : ∃ op2, op = op2 ++ [name] := by
        rcases List.eq_nil_or_concat op with h | ⟨o2, s2, h⟩
        · rw [h] at hl; simp at hl
        · rw [h] at hl
          simp at hl
          exact ⟨o2, by rw [h, hl]; simp⟩
      have hE : mayS false op root ⟨9, fro, to_, name, text, ps, rr⟩ = some (op2, root) := by rw [hop2]; simp [mayS]
      rw [hE]
      have hol : op2.length ≤ 1000000 := by
        have := HOP.out
        rw [hop2, List.length_append] at this
        omega
      have hVd : Below V.heap.size V V.drew := below_drewN' (n := 1) (Below.refl _ _)
      have J1d := HJ1.out.kept hVd
      have CP := Lib.hid (pop_yes sb base (.slice SA SN SC) op2 name 0 false V.drew (by exact hsw) (hop2 ▸ J1d.own) J1d.lt hol)
      have HMd := Lib.hid (HM1.out.trans (MF.ofBelow (sv := .slice SA SN SC) hVd (by have := HJ1.out.lt; have := HJ1.out.le; omega)))
      have HLE := Lib.hid J1d.le
      have HLT := Lib.hid HJ1.out.lt
      clear hol hop2 hl
      have xd3 : V.drew.cell? ⟨W.heap.size, 3, none⟩ = some (.string ⟨name.toArray⟩) := x3
      clear hVd J1d
      go_enter Tryz.func73, Tryz.ntmps73
      go_wp2_with fail
      go_region_with (go_at_call 105; refine CP.out.mono ?_; rintro e w1 ⟨rfl, sv1, hq1, ho1, hM1⟩)
      all_goals
        have HM2 := Lib.hid (HMd.out.trans hM1)
        have HJ2 : Hid (SwJ sb base false w1 sv1 op2 root) := Lib.hid ⟨by simpa using hq1, ho1, HLT.out, by have := hM1.below.size; have := HLE.out; omega, fun h => by cases h⟩
        clear hM1 ho1
        go_wp2
        go_ret
        exact ⟨rfl, _, HJ2.out, HM2.out⟩
    · have hE : mayS false op root ⟨9, fro, to_, name, text, ps, rr⟩ = none := by unfold mayS; rw [if_neg (by show ¬ (9 : Int) = 7; decide), if_neg (by show ¬ (9 : Int) = 8; decide), if_pos rfl, if_neg hl]
      rw [hE]
      have hVd : Below V.heap.size V V.drew := below_drewN' (n := 1) (Below.refl _ _)
      have J1d := HJ1.out.kept hVd
      have CP := Lib.hid (pop_no sb base (.slice SA SN SC) op name 0 false V.drew (by exact hsw) J1d.own HOP.out (hl))
      have HMd := Lib.hid (HM1.out.trans (MF.ofBelow (sv := .slice SA SN SC) hVd (by have := HJ1.out.lt; have := HJ1.out.le; omega)))
      have HLE := Lib.hid J1d.le
      have HLT := Lib.hid HJ1.out.lt
      clear hl
      have xd3 : V.drew.cell? ⟨W.heap.size, 3, none⟩ = some (.string ⟨name.toArray⟩) := x3
      clear hVd J1d
      go_enter Tryz.func73, Tryz.ntmps73
      go_wp2_with fail
      go_region_with (go_at_call 105; refine CP.out.mono ?_; rintro e wq ⟨rfl, hwq⟩; subst hwq)
      all_goals
        go_wp2
        go_ret
        exact ⟨rfl, _, HMd.out⟩
  | true =>
    cases op with
    | nil =>
      cases root with
      | false =>
        have hsw : V.heap[sb]? = some (.cells #[.slice SA SN SC, .int .i64 0, .bool true] 78) := by have := HJ1.out.sw; simpa using this
        have z0 := cell_of 0 hsw
        have z1 := cell_of 1 hsw
        have z2 := cell_of 2 hsw
        have y1 := free_of 1 hsw
        have hs0 : SN = 0 := by simpa using hSN
        clear hSN
        subst hs0
        clear hSNb
        have HOP := Lib.hid hop
        clear hop
        have x0 := cell_of 0 HQ3.out
        have x3 := cell_of 3 HQ3.out
        have x4 := cell_of 4 HQ3.out
        clear hJ1 hM1
        have hE : mayS true [] false ⟨9, fro, to_, name, text, ps, rr⟩ = none := by simp [mayS]
        rw [hE]
        have hVd : Below V.heap.size V V.drew := below_drewN' (n := 1) (Below.refl _ _)
        have J1d := HJ1.out.kept hVd
        have CP := Lib.hid (pop_no sb base (.slice SA 0 SC) [] name 0 true V.drew (by exact hsw) J1d.own HOP.out (by simp))
        have HMd := Lib.hid (HM1.out.trans (MF.ofBelow (sv := .slice SA 0 SC) hVd (by have := HJ1.out.lt; have := HJ1.out.le; omega)))
        have HLE := Lib.hid J1d.le
        have HLT := Lib.hid HJ1.out.lt
        have xd3 : V.drew.cell? ⟨W.heap.size, 3, none⟩ = some (.string ⟨name.toArray⟩) := x3
        clear hVd J1d
        go_enter Tryz.func73, Tryz.ntmps73
        go_wp2_with fail
        go_region_with (go_at_call 105; refine CP.out.mono ?_; rintro e wq ⟨rfl, hwq⟩; subst hwq)
        all_goals
          go_wp2
          go_ret
          exact ⟨rfl, _, HMd.out⟩
      | true =>
        have hsw : V.heap[sb]? = some (.cells #[.slice SA SN SC, .int .i64 1, .bool true] 78) := by have := HJ1.out.sw; simpa using this
        have z0 := cell_of 0 hsw
        have z1 := cell_of 1 hsw
        have z2 := cell_of 2 hsw
        have y1 := free_of 1 hsw
        have hs0 : SN = 0 := by simpa using hSN
        clear hSN
        subst hs0
        clear hSNb
        have HOP := Lib.hid hop
        clear hop
        have x0 := cell_of 0 HQ3.out
        have x3 := cell_of 3 HQ3.out
        have x4 := cell_of 4 HQ3.out
        clear hJ1 hM1
        have hE : mayS true [] true ⟨9, fro, to_, name, text, ps, rr⟩ = none := by simp [mayS]
        rw [hE]
        have hVd : Below V.heap.size V V.drew := below_drewN' (n := 1) (Below.refl _ _)
        have J1d := HJ1.out.kept hVd
        have CP := Lib.hid (pop_no sb base (.slice SA 0 SC) [] name 1 true V.drew (by exact hsw) J1d.own HOP.out (by simp))
        have HMd := Lib.hid (HM1.out.trans (MF.ofBelow (sv := .slice SA 0 SC) hVd (by have := HJ1.out.lt; have := HJ1.out.le; omega)))
        have HLE := Lib.hid J1d.le
        have HLT := Lib.hid HJ1.out.lt
        have xd3 : V.drew.cell? ⟨W.heap.size, 3, none⟩ = some (.string ⟨name.toArray⟩) := x3
        clear hVd J1d
        go_enter Tryz.func73, Tryz.ntmps73
        go_wp2_with fail
        go_region_with (go_at_call 105; refine CP.out.mono ?_; rintro e wq ⟨rfl, hwq⟩; subst hwq)
        all_goals
          go_wp2
          go_ret
          exact ⟨rfl, _, HMd.out⟩
    | cons a op =>
      obtain rfl : root = true := HInv.out rfl (by simp)
      have hsw : V.heap[sb]? = some (.cells #[.slice SA SN SC, .int .i64 1, .bool true] 78) := by have := HJ1.out.sw; simpa using this
      have z0 := cell_of 0 hsw
      have z1 := cell_of 1 hsw
      have z2 := cell_of 2 hsw
      have y1 := free_of 1 hsw
      have hsn : ((SN : Int) == 0) = false := by rw [hSN]; simp; omega
      clear hSN
      clear hSNb
      have HOP := Lib.hid hop
      clear hop
      have x0 := cell_of 0 HQ3.out
      have x3 := cell_of 3 HQ3.out
      have x4 := cell_of 4 HQ3.out
      clear hJ1 hM1
      by_cases hl : (a :: op).getLast? = some name
      · obtain ⟨op2, hop2⟩ : ∃ op2, (a :: op) = op2 ++ [name] := by
          rcases List.eq_nil_or_concat (a :: op) with h | ⟨o2, s2, h⟩
          · rw [h] at hl; simp at hl
          · rw [h] at hl
            simp at hl
            exact ⟨o2, by rw [h, hl]; simp⟩
        have hE : mayS true (a :: op) true ⟨9, fro, to_, name, text, ps, rr⟩ = some (op2, true) := by rw [hop2]; simp [mayS]
        rw [hE]
        have hol : op2.length ≤ 1000000 := by
          have := HOP.out
          rw [hop2, List.length_append] at this
          omega
        have hVd : Below V.heap.size V V.drew := below_drewN' (n := 1) (Below.refl _ _)
        have J1d := HJ1.out.kept hVd
        have CP := Lib.hid (pop_yes sb base (.slice SA SN SC) op2 name 1 true V.drew (by exact hsw) (hop2 ▸ J1d.own) J1d.lt hol)
        have HMd := Lib.hid (HM1.out.trans (MF.ofBelow (sv := .slice SA SN SC) hVd (by have := HJ1.out.lt; have := HJ1.out.le; omega)))
        have HLE := Lib.hid J1d.le
        have HLT := Lib.hid HJ1.out.lt
        clear hol hop2 hl
        have xd3 : V.drew.cell? ⟨W.heap.size, 3, none⟩ = some (.string ⟨name.toArray⟩) := x3
        clear hVd J1d
        go_enter Tryz.func73, Tryz.ntmps73
        go_wp2_with fail
        go_region_with (go_at_call 105; refine CP.out.mono ?_; rintro e w1 ⟨rfl, sv1, hq1, ho1, hM1⟩)
        all_goals
          have HM2 := Lib.hid (HMd.out.trans hM1)
          have HJ2 : Hid (SwJ sb base true w1 sv1 op2 true) := Lib.hid ⟨by simpa using hq1, ho1, HLT.out, by have := hM1.below.size; have := HLE.out; omega, fun _ _ => rfl⟩
          clear hM1 ho1
          go_wp2
          go_ret
          exact ⟨rfl, _, HJ2.out, HM2.out⟩
      · have hE : mayS true (a :: op) true ⟨9, fro, to_, name, text, ps, rr⟩ = none := by unfold mayS; rw [if_neg (by show ¬ (9 : Int) = 7; decide), if_neg (by show ¬ (9 : Int) = 8; decide), if_pos rfl, if_neg hl]
        rw [hE]
        have hVd : Below V.heap.size V V.drew := below_drewN' (n := 1) (Below.refl _ _)
        have J1d := HJ1.out.kept hVd
        have CP := Lib.hid (pop_no sb base (.slice SA SN SC) (a :: op) name 1 true V.drew (by exact hsw) J1d.own HOP.out (hl))
        have HMd := Lib.hid (HM1.out.trans (MF.ofBelow (sv := .slice SA SN SC) hVd (by have := HJ1.out.lt; have := HJ1.out.le; omega)))
        have HLE := Lib.hid J1d.le
        have HLT := Lib.hid HJ1.out.lt
        clear hl
        have xd3 : V.drew.cell? ⟨W.heap.size, 3, none⟩ = some (.string ⟨name.toArray⟩) := x3
        clear hVd J1d
        go_enter Tryz.func73, Tryz.ntmps73
        go_wp2_with fail
        go_region_with (go_at_call 105; refine CP.out.mono ?_; rintro e wq ⟨rfl, hwq⟩; subst hwq)
        all_goals
          go_wp2
          go_ret
          exact ⟨rfl, _, HMd.out⟩
end Go.Proofs.YtmclngahdklfkaaGreatDoor
