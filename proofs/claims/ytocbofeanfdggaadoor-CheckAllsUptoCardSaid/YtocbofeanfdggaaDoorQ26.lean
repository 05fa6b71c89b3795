/- Texts of ours, joined: CkR. -/
import Derived.Test.YtocbofeanfdggaaDoorRows
import Derived.WalkKit
import Derived.ProofKit
import Derived.OpenShut
import Derived.ShutString
import Derived.ChangeOld
import Derived.Below
import Derived.BigQuiet
import Derived.Deep.QuietTactic
import Derived.Lib.Hide
import Derived.Deep.RegionHeld3
import Derived.Lib.SlBytesConst
import Derived.Laws.CopyOwn
import Derived.Laws.CopyRow
import Derived.Lib.Bytes
import Derived.Deep.LoopGhost
import Derived.Deep.DeepFit
import Derived.Deep.DeepMust
import Derived.WalkSpells
import Derived.WalkLawsBesides
import Derived.Maps.OwnOps
import Derived.Maps.OwnSet
import Derived.Maps.Views
import Derived.Laws.EntriesVeiled
import Derived.Laws.Rows
import Derived.Maps.AppendAt
import Derived.Lib.SmallJoins
import Derived.Deep.AppendLies
import Derived.Deep.RegionLaw
import Derived.Deep.RegionWith
import Derived.Test.YtocbofeanfdggaaDoorQ1
import Derived.Test.YtocbofeanfdggaaDoorQ2
import Derived.Test.YtocbofeanfdggaaDoorQ3
import Derived.Test.YtocbofeanfdggaaDoorQ4
import Derived.Test.YtocbofeanfdggaaDoorQ5
import Derived.Test.YtocbofeanfdggaaDoorQ6
import Derived.Test.YtocbofeanfdggaaDoorQ11
import Derived.Test.YtocbofeanfdggaaDoorQ12
import Derived.Test.YtocbofeanfdggaaDoorQ13
import Derived.Test.YtocbofeanfdggaaDoorQ14
import Derived.Test.YtocbofeanfdggaaDoorQ17
import Derived.Test.YtocbofeanfdggaaDoorQ18
import Derived.Test.YtocbofeanfdggaaDoorQ20
import Derived.Test.YtocbofeanfdggaaDoorQ25
/- check.rules, One. -/
namespace Go.Proofs.YtocbofeanfdggaaDoor
open Go.ChangeShapes Go.WideShapes Go.ChangeAt Go.RowKit
set_option linter.unusedVariables false
/-- The rules' table: a function value and its error, five times. -/
def rulesC : Array Value := #[.func (.func 43) #[] #[], .int .i64 2, .func (.func 44) #[] #[], .int .i64 7, .func (.func 45) #[] #[], .int .i64 7, .func (.func 46) #[] #[], .int .i64 11, .func (.func 47) #[] #[], .int .i64 9]
set_option maxRecDepth 100000 in
set_option maxHeartbeats 4000000 in
theorem rules_c (w : World) : Calls Tryd.prog 32 #[] w fun e w' => e = .returned (.slice (some ⟨w.heap.size, 0, none⟩) 5 5) ∧ CJ 70 w w' rulesC := by
  go_enter Tryd.func32, Tryd.ntmps32
  go_wp2
  go_ret
  exact ⟨rfl, CJ.start _ _ _⟩
/-- The error from a rule on. -/
def ruleFrom (b0 b1 b2 b3 b4 : Bool) : Nat → Nat
  | 0 => (if b0 = false then 2 else (if b1 = false then 7 else (if b2 = false then 7 else (if b3 = false then 11 else (if b4 = false then 9 else 0)))))
  | 1 => (if b1 = false then 7 else (if b2 = false then 7 else (if b3 = false then 11 else (if b4 = false then 9 else 0))))
  | 2 => (if b2 = false then 7 else (if b3 = false then 11 else (if b4 = false then 9 else 0)))
  | 3 => (if b3 = false then 11 else (if b4 = false then 9 else 0))
  | 4 => (if b4 = false then 9 else 0)
  | _ => 0
set_option maxRecDepth 100000 in
set_option maxHeartbeats 8000000 in
theorem ckOne_c (k : Int) (sp lo tx : List UInt8) (A : Option Addr) (n cap : Nat) (b0 b1 b2 b3 b4 : Bool) (w : World)
    (h0 : ∀ W, Below w.heap.size w W → Calls Tryd.prog 43 #[.agg #[.int .i64 k, .string ⟨sp.toArray⟩, .string ⟨lo.toArray⟩, .slice A n cap, .string ⟨tx.toArray⟩]] W fun e w' => e = .returned (.bool b0) ∧ Below W.heap.size W w')
    (h1 : ∀ W, Below w.heap.size w W → Calls Tryd.prog 44 #[.agg #[.int .i64 k, .string ⟨sp.toArray⟩, .string ⟨lo.toArray⟩, .slice A n cap, .string ⟨tx.toArray⟩]] W fun e w' => e = .returned (.bool b1) ∧ Below W.heap.size W w')
    (h2 : ∀ W, Below w.heap.size w W → Calls Tryd.prog 45 #[.agg #[.int .i64 k, .string ⟨sp.toArray⟩, .string ⟨lo.toArray⟩, .slice A n cap, .string ⟨tx.toArray⟩]] W fun e w' => e = .returned (.bool b2) ∧ Below W.heap.size W w')
    (h3 : ∀ W, Below w.heap.size w W → Calls Tryd.prog 46 #[.agg #[.int .i64 k, .string ⟨sp.toArray⟩, .string ⟨lo.toArray⟩, .slice A n cap, .string ⟨tx.toArray⟩]] W fun e w' => e = .returned (.bool b3) ∧ Below W.heap.size W w')
    (h4 : ∀ W, Below w.heap.size w W → Calls Tryd.prog 47 #[.agg #[.int .i64 k, .string ⟨sp.toArray⟩, .string ⟨lo.toArray⟩, .slice A n cap, .string ⟨tx.toArray⟩]] W fun e w' => e = .returned (.bool b4) ∧ Below W.heap.size W w') :
    Calls Tryd.prog 13 #[.agg #[.int .i64 k, .string ⟨sp.toArray⟩, .string ⟨lo.toArray⟩, .slice A n cap, .string ⟨tx.toArray⟩]] w fun e w' => e = .returned (.int .i64 (ruleFrom b0 b1 b2 b3 b4 0 : Nat)) ∧ Below w.heap.size w w' := by
  have J0 := Lib.hid (CJ.start 40 w #[.int .i64 k, .string ⟨sp.toArray⟩, .string ⟨lo.toArray⟩, .slice A n cap, .string ⟨tx.toArray⟩])
  have H0 := Lib.hid h0
  have H1 := Lib.hid h1
  have H2 := Lib.hid h2
  have H3 := Lib.hid h3
  have H4 := Lib.hid h4
  clear h0 h1 h2 h3 h4
  have C1 := Lib.hid (rules_c (w.alloc (.cells #[.int .i64 k, .string ⟨sp.toArray⟩, .string ⟨lo.toArray⟩, .slice A n cap, .string ⟨tx.toArray⟩] 40)))
  have HR0 : Hid (ruleFrom b0 b1 b2 b3 b4 0 = ruleFrom b0 b1 b2 b3 b4 0) := Lib.hid rfl
  generalize hR : ruleFrom b0 b1 b2 b3 b4 0 = R at HR0 ⊢
  have HR := Lib.hid hR.symm
  clear hR HR0
  go_enter Tryd.func13, Tryd.ntmps13
  go_wp2_with fail
  refine C1.out.mono ?_
  rintro e w1 ⟨rfl, hj⟩
  have K0 := Lib.hid hj
  clear hj C1
  go_wp2
  go_loopg [7] (5) (fun g i wr => ∃ t : Nat, i = .int .i64 (t : Int) ∧ t ≤ 5 ∧ Hid (g + t = 5) ∧ Hid (R = ruleFrom b0 b1 b2 b3 b4 t) ∧ Hid (Below w1.heap.size w1 wr))
  case atStart => exact ⟨0, rfl, Nat.zero_le _, Lib.hid rfl, HR, Lib.hid (Below.refl _ _)⟩
  case round =>
    obtain ⟨t, rfl, ht, hg, HA, HB⟩ := hrel
    have K1 := Lib.hid (K0.out.kept HB.out)
    have HBJ := Lib.hid (K0.out.1.trans (HB.out.mono K0.out.1.size))
    have J1 := Lib.hid (J0.out.kept HBJ.out)
    have z0 := cell_of 0 J1.out.2
    have z1 := cell_of 1 J1.out.2
    have z2 := cell_of 2 J1.out.2
    have z3 := cell_of 3 J1.out.2
    have z4 := cell_of 4 J1.out.2
    obtain rfl | rfl | rfl | rfl | rfl | rfl : t = 0 ∨ t = 1 ∨ t = 2 ∨ t = 3 ∨ t = 4 ∨ t = 5 := by omega
    · have y0 : wr.cell? ⟨w.heap.size + 1, 0, none⟩ = some (.func (.func 43) #[] #[]) := by
        have := cell_of 0 K1.out.2
        rw [World.size_alloc] at this
        exact this
      have y1 : wr.cell? ⟨w.heap.size + 1, 1, none⟩ = some (.int .i64 2) := by
        have := cell_of 1 K1.out.2
        rw [World.size_alloc] at this
        exact this
      have ka := (Below.refl wr.heap.size wr).alloc (Nat.le_refl _) (.cells #[.func (.func 43) #[] #[], .int .i64 2] 70)
      have HBa := Lib.hid (HB.out.trans (ka.mono HB.out.size))
      have HBw := Lib.hid (J0.out.1.trans ((K0.out.1.trans (HBa.out.mono K0.out.1.size)).mono J0.out.1.size))
      have C3 := Lib.hid (H0.out _ HBw.out)
      have J1a := Lib.hid (J1.out.kept ka)
      have v0 := cell_of 0 J1a.out.2
      have v1 := cell_of 1 J1a.out.2
      have v2 := cell_of 2 J1a.out.2
      have v3 := cell_of 3 J1a.out.2
      have v4 := cell_of 4 J1a.out.2
      clear ka z0 z1 z2 z3 z4
      go_wp2_with fail
      refine C3.out.mono ?_
      rintro e w2 ⟨rfl, hb2⟩
      have JR := (CJ.start 70 wr #[.func (.func 43) #[] #[], .int .i64 2]).kept hb2
      have r1 := cell_of 1 JR.2
      clear JR
      have HB2 := Lib.hid (HBa.out.trans (hb2.mono HBa.out.size))
      have HBe := Lib.hid (HBw.out.trans (hb2.mono HBw.out.size))
      clear hb2
      cases b0 with
      | false =>
        go_wp2
        go_ret
        exact ⟨by rw [HA.out]; rfl, HBe.out⟩
      | true =>
        go_wp2
        go_roundg (4 - 0)
        case measure => have := hg.out; omega
        case rel => exact ⟨1, by go_num, by omega, Lib.hid rfl, Lib.hid (by rw [HA.out]; simp [ruleFrom]), HB2⟩
    · have y0 : wr.cell? ⟨w.heap.size + 1, 2, none⟩ = some (.func (.func 44) #[] #[]) := by
        have := cell_of 2 K1.out.2
        rw [World.size_alloc] at this
        exact this
      have y1 : wr.cell? ⟨w.heap.size + 1, 3, none⟩ = some (.int .i64 7) := by
        have := cell_of 3 K1.out.2
        rw [World.size_alloc] at this
        exact this
      have ka := (Below.refl wr.heap.size wr).alloc (Nat.le_refl _) (.cells #[.func (.func 44) #[] #[], .int .i64 7] 70)
      have HBa := Lib.hid (HB.out.trans (ka.mono HB.out.size))
      have HBw := Lib.hid (J0.out.1.trans ((K0.out.1.trans (HBa.out.mono K0.out.1.size)).mono J0.out.1.size))
      have C3 := Lib.hid (H1.out _ HBw.out)
      have J1a := Lib.hid (J1.out.kept ka)
      have v0 := cell_of 0 J1a.out.2
      have v1 := cell_of 1 J1a.out.2
      have v2 := cell_of 2 J1a.out.2
      have v3 := cell_of 3 J1a.out.2
      have v4 := cell_of 4 J1a.out.2
      clear ka z0 z1 z2 z3 z4
      go_wp2_with fail
      refine C3.out.mono ?_
      rintro e w2 ⟨rfl, hb2⟩
      have JR := (CJ.start 70 wr #[.func (.func 44) #[] #[], .int .i64 7]).kept hb2
      have r1 := cell_of 1 JR.2
      clear JR
      have HB2 := Lib.hid (HBa.out.trans (hb2.mono HBa.out.size))
      have HBe := Lib.hid (HBw.out.trans (hb2.mono HBw.out.size))
      clear hb2
      cases b1 with
      | false =>
        go_wp2
        go_ret
        exact ⟨by rw [HA.out]; rfl, HBe.out⟩
      | true =>
        go_wp2
        go_roundg (4 - 1)
        case measure => have := hg.out; omega
        case rel => exact ⟨2, by go_num, by omega, Lib.hid rfl, Lib.hid (by rw [HA.out]; simp [ruleFrom]), HB2⟩
    · have y0 : wr.cell? ⟨w.heap.size + 1, 4, none⟩ = some (.func (.func 45) #[] #[]) := by
        have := cell_of 4 K1.out.2
        rw [World.size_alloc] at this
        exact this
      have y1 : wr.cell? ⟨w.heap.size + 1, 5, none⟩ = some (.int .i64 7) := by
        have := cell_of 5 K1.out.2
        rw [World.size_alloc] at this
        exact this
      have ka := (Below.refl wr.heap.size wr).alloc (Nat.le_refl _) (.cells #[.func (.func 45) #[] #[], .int .i64 7] 70)
      have HBa := Lib.hid (HB.out.trans (ka.mono HB.out.size))
      have HBw := Lib.hid (J0.out.1.trans ((K0.out.1.trans (HBa.out.mono K0.out.1.size)).mono J0.out.1.size))
      have C3 := Lib.hid (H2.out _ HBw.out)
      have J1a := Lib.hid (J1.out.kept ka)
      have v0 := cell_of 0 J1a.out.2
      have v1 := cell_of 1 J1a.out.2
      have v2 := cell_of 2 J1a.out.2
      have v3 := cell_of 3 J1a.out.2
      have v4 := cell_of 4 J1a.out.2
      clear ka z0 z1 z2 z3 z4
      go_wp2_with fail
      refine C3.out.mono ?_
      rintro e w2 ⟨rfl, hb2⟩
      have JR := (CJ.start 70 wr #[.func (.func 45) #[] #[], .int .i64 7]).kept hb2
      have r1 := cell_of 1 JR.2
      clear JR
      have HB2 := Lib.hid (HBa.out.trans (hb2.mono HBa.out.size))
      have HBe := Lib.hid (HBw.out.trans (hb2.mono HBw.out.size))
      clear hb2
      cases b2 with
      | false =>
        go_wp2
        go_ret
        exact ⟨by rw [HA.out]; rfl, HBe.out⟩
      | true =>
        go_wp2
        go_roundg (4 - 2)
        case measure => have := hg.out; omega
        case rel => exact ⟨3, by go_num, by omega, Lib.hid rfl, Lib.hid (by rw [HA.out]; simp [ruleFrom]), HB2⟩
    · have y0 : wr.cell? ⟨w.heap.size + 1, 6, none⟩ = some (.func (.func 46) #[] #[]) := by
        have := cell_of 6 K1.out.2
        rw [World.size_alloc] at this
        exact this
      have y1 : wr.cell? ⟨w.heap.size + 1, 7, none⟩ = some (.int .i64 11) := by
        have := cell_of 7 K1.out.2
        rw [World.size_alloc] at this
        exact this
      have ka := (Below.refl wr.heap.size wr).alloc (Nat.le_refl _) (.cells #[.func (.func 46) #[] #[], .int .i64 11] 70)
      have HBa := Lib.hid (HB.out.trans (ka.mono HB.out.size))
      have HBw := Lib.hid (J0.out.1.trans ((K0.out.1.trans (HBa.out.mono K0.out.1.size)).mono J0.out.1.size))
      have C3 := Lib.hid (H3.out _ HBw.out)
      have J1a := Lib.hid (J1.out.kept ka)
      have v0 := cell_of 0 J1a.out.2
      have v1 := cell_of 1 J1a.out.2
      have v2 := cell_of 2 J1a.out.2
      have v3 := cell_of 3 J1a.out.2
      have v4 := cell_of 4 J1a.out.2
      clear ka z0 z1 z2 z3 z4
      go_wp2_with fail
      refine C3.out.mono ?_
      rintro e w2 ⟨rfl, hb2⟩
      have JR := (CJ.start 70 wr #[.func (.func 46) #[] #[], .int .i64 11]).kept hb2
      have r1 := cell_of 1 JR.2
      clear JR
      have HB2 := Lib.hid (HBa.out.trans (hb2.mono HBa.out.size))
      have HBe := Lib.hid (HBw.out.trans (hb2.mono HBw.out.size))
      clear hb2
      cases b3 with
      | false =>
        go_wp2
        go_ret
        exact ⟨by rw [HA.out]; rfl, HBe.out⟩
      | true =>
        go_wp2
        go_roundg (4 - 3)
        case measure => have := hg.out; omega
        case rel => exact ⟨4, by go_num, by omega, Lib.hid rfl, Lib.hid (by rw [HA.out]; simp [ruleFrom]), HB2⟩
    · have y0 : wr.cell? ⟨w.heap.size + 1, 8, none⟩ = some (.func (.func 47) #[] #[]) := by
        have := cell_of 8 K1.out.2
        rw [World.size_alloc] at this
        exact this
      have y1 : wr.cell? ⟨w.heap.size + 1, 9, none⟩ = some (.int .i64 9) := by
        have := cell_of 9 K1.out.2
        rw [World.size_alloc] at this
        exact this
      have ka := (Below.refl wr.heap.size wr).alloc (Nat.le_refl _) (.cells #[.func (.func 47) #[] #[], .int .i64 9] 70)
      have HBa := Lib.hid (HB.out.trans (ka.mono HB.out.size))
      have HBw := Lib.hid (J0.out.1.trans ((K0.out.1.trans (HBa.out.mono K0.out.1.size)).mono J0.out.1.size))
      have C3 := Lib.hid (H4.out _ HBw.out)
      have J1a := Lib.hid (J1.out.kept ka)
      have v0 := cell_of 0 J1a.out.2
      have v1 := cell_of 1 J1a.out.2
      have v2 := cell_of 2 J1a.out.2
      have v3 := cell_of 3 J1a.out.2
      have v4 := cell_of 4 J1a.out.2
      clear ka z0 z1 z2 z3 z4
      go_wp2_with fail
      refine C3.out.mono ?_
      rintro e w2 ⟨rfl, hb2⟩
      have JR := (CJ.start 70 wr #[.func (.func 47) #[] #[], .int .i64 9]).kept hb2
      have r1 := cell_of 1 JR.2
      clear JR
      have HB2 := Lib.hid (HBa.out.trans (hb2.mono HBa.out.size))
      have HBe := Lib.hid (HBw.out.trans (hb2.mono HBw.out.size))
      clear hb2
      cases b4 with
      | false =>
        go_wp2
        go_ret
        exact ⟨by rw [HA.out]; rfl, HBe.out⟩
      | true =>
        go_wp2
        go_roundg (4 - 4)
        case measure => have := hg.out; omega
        case rel => exact ⟨5, by go_num, by omega, Lib.hid rfl, Lib.hid (by rw [HA.out]; simp [ruleFrom]), HB2⟩
    · go_wp2
      go_ret
      exact ⟨by rw [HA.out]; rfl, J0.out.1.trans (HBJ.out.mono J0.out.1.size)⟩
end Go.Proofs.YtocbofeanfdggaaDoor
