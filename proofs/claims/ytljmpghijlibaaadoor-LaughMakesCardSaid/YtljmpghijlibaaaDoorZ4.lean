/- Several texts of ours in one: LgC, LgM, LgN, LgL. -/
import Derived.Test.YtljmpghijlibaaaDoorRows
import Derived.WalkKit
import Derived.ProofKit
import Derived.OpenShut
import Derived.ShutString
import Derived.ChangeOld
import Derived.Below
import Derived.BigQuiet
import Derived.Deep.QuietTactic
import Derived.Lib.Hide
import Derived.Deep.RegionHeld3
import Derived.Lib.SlBytesConst
import Derived.Laws.CopyOwn
import Derived.Laws.CopyRow
import Derived.Lib.Bytes
import Derived.Deep.LoopGhost
import Derived.Deep.DeepFit
import Derived.Deep.DeepMust
import Derived.WalkSpells
import Derived.WalkLawsBesides
import Derived.Laws.EntriesVeiled
import Derived.Laws.Rows
import Derived.Test.YtljmpghijlibaaaDoorShelf
import Derived.Test.YtljmpghijlibaaaDoorBase
import Derived.Test.YtljmpghijlibaaaDoorCharPlain
import Derived.Test.YtljmpghijlibaaaDoorChars1
import Derived.Test.YtljmpghijlibaaaDoorUtf1
import Derived.Test.YtljmpghijlibaaaDoorUtf2
import Derived.Test.YtljmpghijlibaaaDoorUtf3
import Derived.Test.YtljmpghijlibaaaDoorName1
import Derived.Test.YtljmpghijlibaaaDoorName2
import Derived.Test.YtljmpghijlibaaaDoorName3
import Derived.Test.YtljmpghijlibaaaDoorCref1
import Derived.Test.YtljmpghijlibaaaDoorY2
import Derived.Test.YtljmpghijlibaaaDoorStr
import Derived.Test.YtljmpghijlibaaaDoorY3
import Derived.Test.YtljmpghijlibaaaDoorMiscP
import Derived.Test.YtljmpghijlibaaaDoorEnc
import Derived.Test.YtljmpghijlibaaaDoorEvP
import Derived.Test.YtljmpghijlibaaaDoorEvP2
import Derived.Test.YtljmpghijlibaaaDoorEscP
import Derived.Test.YtljmpghijlibaaaDoorPlainP
import Derived.Test.YtljmpghijlibaaaDoorKnown
import Derived.Test.YtljmpghijlibaaaDoorEvP3
import Derived.Test.YtljmpghijlibaaaDoorEvP4
import Derived.Test.YtljmpghijlibaaaDoorPub
import Derived.Test.YtljmpghijlibaaaDoorRun
import Derived.Test.YtljmpghijlibaaaDoorRunU
import Derived.Test.YtljmpghijlibaaaDoorRunV
import Derived.Test.YtljmpghijlibaaaDoorEv2
import Derived.Test.YtljmpghijlibaaaDoorEv3
import Derived.Test.YtljmpghijlibaaaDoorLibB
import Derived.Test.YtljmpghijlibaaaDoorText
import Derived.Test.YtljmpghijlibaaaDoorEv1
import Derived.Test.YtljmpghijlibaaaDoorEv6
import Derived.Test.YtljmpghijlibaaaDoorEv7
import Derived.Test.YtljmpghijlibaaaDoorZ3
import Derived.Test.YtljmpghijlibaaaDoorLgP
import Derived.Test.YtljmpghijlibaaaDoorLgW
import Derived.Test.YtljmpghijlibaaaDoorEsc2
namespace Go.Proofs.YtljmpghijlibaaaDoor
open Go.ChangeShapes Go.WideShapes Go.ChangeAt Go.RowKit
set_option linter.unusedVariables false
def W14p (w : World) : Prop := W14 w ∧ Lib.TabIs Tryd.prog w "internal/strconv.uint64pow10" .u64 Lib.pow10Tab
theorem W14p.below {w w' : World} (h : W14p w) (hb : Below w.heap.size w w') : W14p w' := ⟨h.1.below hb, TabIs_below (B := 0) h.2 hb⟩
set_option maxRecDepth 100000 in
set_option maxHeartbeats 8000000 in
theorem lCheck_c (lv wd : Int) (u : List UInt8) (w : World) (hW : W14p w) :
    Calls Tryd.prog 11 #[.agg #[.int .i64 lv, .int .i64 wd, .string ⟨u.toArray⟩]] w fun e w' => e = .returned (.int .i64 (chkB lv wd u)) ∧ Below w.heap.size w w' := by
  have hsz : (⟨u.toArray⟩ : ByteArray).size = u.length := by simp [ByteArray.size]
  have HB := Lib.hid ((Below.refl _ w).alloc (Nat.le_refl _) (.cells #[.int .i64 lv, .int .i64 wd, .string ⟨u.toArray⟩] 28))
  by_cases h0 : lv < 0
  · have HC : Hid (chkB lv wd u = 2) := Lib.hid (by unfold chkB; rw [if_pos (Or.inl h0)])
    go_enter Tryd.func11, Tryd.ntmps11
    go_wp2
    go_ret
    rw [HC.out]
    exact ⟨rfl, HB.out⟩
  by_cases h1 : 200 < lv
  · have HC : Hid (chkB lv wd u = 2) := Lib.hid (by unfold chkB; rw [if_pos (Or.inr (Or.inl h1))])
    go_enter Tryd.func11, Tryd.ntmps11
    go_wp2
    go_ret
    rw [HC.out]
    exact ⟨rfl, HB.out⟩
  by_cases h2 : wd < 0
  · have HC : Hid (chkB lv wd u = 2) := Lib.hid (by unfold chkB; rw [if_pos (Or.inr (Or.inr (Or.inl h2)))])
    go_enter Tryd.func11, Tryd.ntmps11
    go_wp2
    go_ret
    rw [HC.out]
    exact ⟨rfl, HB.out⟩
  by_cases h3 : 16 < wd
  · have HC : Hid (chkB lv wd u = 2) := Lib.hid (by unfold chkB; rw [if_pos (Or.inr (Or.inr (Or.inr (Or.inl h3))))])
    go_enter Tryd.func11, Tryd.ntmps11
    go_wp2
    go_ret
    rw [HC.out]
    exact ⟨rfl, HB.out⟩
  by_cases h4 : (1000 : Int) < (u.length : Int)
  · have HC : Hid (chkB lv wd u = 2) := Lib.hid (by unfold chkB; rw [if_pos (Or.inr (Or.inr (Or.inr (Or.inr (Or.inl (by omega))))))])
    go_enter Tryd.func11, Tryd.ntmps11
    go_wp2
    go_ret
    rw [HC.out]
    exact ⟨rfl, HB.out⟩
  have CP := Lib.hid (evPut_c u _ (hW.below HB.out).1 (hW.below HB.out).2 (by omega))
  clear hW
  have CH : Hid (∀ W, Calls Tryd.prog 32 #[.string ⟨u.toArray⟩, .string ⟨#[60]⟩] W fun e w' => e = .returned (.bool (u.contains 60)) ∧ W = w') := Lib.hid fun W =>
    (Tryd.strings_Contains_one ⟨u.toArray⟩ 60 W).mono fun e w' ⟨he, hw⟩ => ⟨by rw [he, ← ix_contains], hw.symm⟩
  cases h5 : u.contains 60 with
  | true =>
    have HC : Hid (chkB lv wd u = 2) := Lib.hid (by unfold chkB; rw [if_pos (Or.inr (Or.inr (Or.inr (Or.inr (Or.inr h5)))))])
    rw [h5] at CH
    clear h5
    go_enter Tryd.func11, Tryd.ntmps11
    go_wp2_with fail
    refine (CH.out _).mono ?_
    rintro e w1 ⟨rfl, rfl⟩
    go_wp2
    go_ret
    rw [HC.out]
    exact ⟨rfl, HB.out⟩
  | false =>
    have HC : Hid (chkB lv wd u = (putOut u).2) := Lib.hid (by unfold chkB; rw [if_neg (by rw [h5]; simp; omega)])
    rw [h5] at CH
    clear h5
    generalize putOut u = po at *
    obtain ⟨p1, p2⟩ := po
    dsimp only at *
    go_enter Tryd.func11, Tryd.ntmps11
    go_wp2_with fail
    refine (CH.out _).mono ?_
    rintro e w1 ⟨rfl, rfl⟩
    go_wp2_with fail
    refine CP.out.mono ?_
    rintro e w2 ⟨rfl, hb2⟩
    have HE := Lib.hid (HB.out.trans (hb2.mono HB.out.size))
    clear hb2
    go_wp2
    go_ret
    rw [HC.out]
    exact ⟨rfl, HE.out⟩
set_option maxRecDepth 100000 in
set_option maxHeartbeats 8000000 in
theorem rCheck_c (lv wd : Int) (u : List UInt8) (w : World) :
    Calls Tryd.prog 10 #[.agg #[.int .i64 lv, .int .i64 wd, .string ⟨u.toArray⟩]] w fun e w' => e = .returned (.int .i64 (chkB lv wd u)) ∧ Below w.heap.size w w' := by
  have hsz : (⟨u.toArray⟩ : ByteArray).size = u.length := by simp [ByteArray.size]
  have HB := Lib.hid ((Below.refl _ w).alloc (Nat.le_refl _) (.cells #[.int .i64 lv, .int .i64 wd, .string ⟨u.toArray⟩] 23))
  by_cases h0 : lv < 0
  · have HC : Hid (chkB lv wd u = 2) := Lib.hid (by unfold chkB; rw [if_pos (Or.inl h0)])
    go_enter Tryd.func10, Tryd.ntmps10
    go_wp2
    go_ret
    rw [HC.out]
    exact ⟨rfl, HB.out⟩
  by_cases h1 : 200 < lv
  · have HC : Hid (chkB lv wd u = 2) := Lib.hid (by unfold chkB; rw [if_pos (Or.inr (Or.inl h1))])
    go_enter Tryd.func10, Tryd.ntmps10
    go_wp2
    go_ret
    rw [HC.out]
    exact ⟨rfl, HB.out⟩
  by_cases h2 : wd < 0
  · have HC : Hid (chkB lv wd u = 2) := Lib.hid (by unfold chkB; rw [if_pos (Or.inr (Or.inr (Or.inl h2)))])
    go_enter Tryd.func10, Tryd.ntmps10
    go_wp2
    go_ret
    rw [HC.out]
    exact ⟨rfl, HB.out⟩
  by_cases h3 : 16 < wd
  · have HC : Hid (chkB lv wd u = 2) := Lib.hid (by unfold chkB; rw [if_pos (Or.inr (Or.inr (Or.inr (Or.inl h3))))])
    go_enter Tryd.func10, Tryd.ntmps10
    go_wp2
    go_ret
    rw [HC.out]
    exact ⟨rfl, HB.out⟩
  by_cases h4 : (1000 : Int) < (u.length : Int)
  · have HC : Hid (chkB lv wd u = 2) := Lib.hid (by unfold chkB; rw [if_pos (Or.inr (Or.inr (Or.inr (Or.inr (Or.inl (by omega))))))])
    go_enter Tryd.func10, Tryd.ntmps10
    go_wp2
    go_ret
    rw [HC.out]
    exact ⟨rfl, HB.out⟩
  have CP : Hid (∀ W, Calls Tryd.prog 31 #[.string ⟨u.toArray⟩] W fun e w' => e = .returned (.tuple #[.string ⟨(putOut u).1.toArray⟩, .int .i64 (putOut u).2]) ∧ Below W.heap.size W w') := Lib.hid fun W => refPut14_c u W (by omega)
  have CH : Hid (∀ W, Calls Tryd.prog 30 #[.string ⟨u.toArray⟩, .int .u8 60] W fun e w' => e = .returned (.bool (u.contains 60)) ∧ W = w') := Lib.hid fun W => by
    have := has_c u 60 W (by omega)
    rwa [ix_contains] at this
  cases h5 : u.contains 60 with
  | true =>
    have HC : Hid (chkB lv wd u = 2) := Lib.hid (by unfold chkB; rw [if_pos (Or.inr (Or.inr (Or.inr (Or.inr (Or.inr h5)))))])
    rw [h5] at CH
    clear h5
    go_enter Tryd.func10, Tryd.ntmps10
    go_wp2_with fail
    refine (CH.out _).mono ?_
    rintro e w1 ⟨rfl, rfl⟩
    go_wp2
    go_ret
    rw [HC.out]
    exact ⟨rfl, HB.out⟩
  | false =>
    have HC : Hid (chkB lv wd u = (putOut u).2) := Lib.hid (by unfold chkB; rw [if_neg (by rw [h5]; simp; omega)])
    rw [h5] at CH
    clear h5
    generalize putOut u = po at *
    obtain ⟨p1, p2⟩ := po
    dsimp only at *
    go_enter Tryd.func10, Tryd.ntmps10
    go_wp2_with fail
    refine (CH.out _).mono ?_
    rintro e w1 ⟨rfl, rfl⟩
    go_wp2_with fail
    refine (CP.out _).mono ?_
    rintro e w2 ⟨rfl, hb2⟩
    have HE := Lib.hid (HB.out.trans (hb2.mono HB.out.size))
    clear hb2
    go_wp2
    go_ret
    rw [HC.out]
    exact ⟨rfl, HE.out⟩
set_option maxRecDepth 100000 in
set_option maxHeartbeats 8000000 in
theorem lLength_c (lv wd : Nat) (u : List UInt8) (hl : lv ≤ 200) (hw : wd ≤ 16) (hu : u.length ≤ 1000) (hc : chkB lv wd u = 0) (w : World) (hW : W14p w) :
    Calls Tryd.prog 12 #[.agg #[.int .i64 lv, .int .i64 wd, .string ⟨u.toArray⟩]] w fun e w' => e = .returned (.int .i64 (satN (u.length * wd ^ lv) : Nat)) ∧ Below w.heap.size w w' := by
  have hsz : (⟨u.toArray⟩ : ByteArray).size = u.length := by simp [ByteArray.size]
  have HB := Lib.hid ((Below.refl _ w).alloc (Nat.le_refl _) (.cells #[.int .i64 lv, .int .i64 wd, .string ⟨u.toArray⟩] 28))
  have CC := Lib.hid (lCheck_c lv wd u _ (hW.below HB.out))
  rw [hc] at CC
  have CP : Hid (∀ W, Calls Tryd.prog 35 #[.int .i64 wd, .int .i64 lv] W fun e w' => e = .returned (.int .i64 (satN (wd ^ lv) : Nat)) ∧ w' = W) := Lib.hid fun W => (satPow_c wd lv (by omega) (by omega) W).mono fun e w' ⟨he, hw⟩ => ⟨he, hw.symm⟩
  have CM : Hid (∀ W, Calls Tryd.prog 34 #[.int .i64 u.length, .int .i64 (satN (wd ^ lv) : Nat)] W fun e w' => e = .returned (.int .i64 (satN (u.length * satN (wd ^ lv)) : Nat)) ∧ w' = W) := Lib.hid fun W => (satMul_c u.length _ (by omega) (satN_le _) W).mono fun e w' ⟨he, hw⟩ => ⟨he, hw.symm⟩
  have HN : Hid (satN (u.length * wd ^ lv) = satN (u.length * satN (wd ^ lv))) := Lib.hid (satN_mul_r _ _).symm
  have HC : Hid (∀ W, Below (w.heap.size + 1) (w.alloc (.cells #[.int .i64 lv, .int .i64 wd, .string ⟨u.toArray⟩] 28)) W → W.cell? ⟨w.heap.size, 0, none⟩ = some (.int .i64 lv) ∧ W.cell? ⟨w.heap.size, 1, none⟩ = some (.int .i64 wd) ∧ W.cell? ⟨w.heap.size, 2, none⟩ = some (.string ⟨u.toArray⟩)) := Lib.hid fun W hb => by
    have z := (hb.block _ (by omega)).trans (hp_new w (.cells #[.int .i64 lv, .int .i64 wd, .string ⟨u.toArray⟩] 28))
    exact ⟨by rw [cell_of 0 z]; rfl, by rw [cell_of 1 z]; rfl, by rw [cell_of 2 z]; rfl⟩
  clear hW hc
  generalize satN (u.length * satN (wd ^ lv)) = s2 at *
  generalize satN (wd ^ lv) = s1 at *
  go_enter Tryd.func12, Tryd.ntmps12
  go_wp2_with fail
  refine CC.out.mono ?_
  rintro e w1 ⟨rfl, hb1⟩
  obtain ⟨c0, c1, c2⟩ := HC.out w1 (by have := hb1; rw [World.size_alloc] at this; exact this)
  have HE := Lib.hid (HB.out.trans (hb1.mono HB.out.size))
  clear hb1
  go_wp2_with fail
  go_quiet ((first | (go_at_call 35; exact Calls.quiet_of_same (CP.out _)) | (go_at_call 34; exact Calls.quiet_of_same (CM.out _))))
  have HE2 := Lib.hid (below_drewN' (n := nq) HE.out)
  generalize w1.drewN nq = wq at *
  go_wp2
  go_ret
  rw [HN.out]
  exact ⟨rfl, HE2.out⟩
set_option maxRecDepth 100000 in
set_option maxHeartbeats 8000000 in
theorem lLength_bad (lv wd : Int) (u : List UInt8) (hc : chkB lv wd u ≠ 0) (w : World) (hW : W14p w) :
    Calls Tryd.prog 12 #[.agg #[.int .i64 lv, .int .i64 wd, .string ⟨u.toArray⟩]] w fun e w' => e = .returned (.int .i64 0) ∧ Below w.heap.size w w' := by
  have HB := Lib.hid ((Below.refl _ w).alloc (Nat.le_refl _) (.cells #[.int .i64 lv, .int .i64 wd, .string ⟨u.toArray⟩] 28))
  have CC := Lib.hid (lCheck_c lv wd u _ (hW.below HB.out))
  have hz : (chkB lv wd u == 0) = false := by simpa using hc
  clear hW hc
  generalize chkB lv wd u = c at *
  go_enter Tryd.func12, Tryd.ntmps12
  go_wp2_with fail
  refine CC.out.mono ?_
  rintro e w1 ⟨rfl, hb1⟩
  have HE := Lib.hid (HB.out.trans (hb1.mono HB.out.size))
  clear hb1
  go_wp2
  go_ret
  exact ⟨rfl, HE.out⟩
set_option maxRecDepth 100000 in
set_option maxHeartbeats 8000000 in
theorem lCost_bad (lv wd : Int) (u : List UInt8) (hc : chkB lv wd u ≠ 0) (w : World) (hW : W14p w) :
    Calls Tryd.prog 13 #[.agg #[.int .i64 lv, .int .i64 wd, .string ⟨u.toArray⟩]] w fun e w' => e = .returned (.int .i64 0) ∧ Below w.heap.size w w' := by
  have HB := Lib.hid ((Below.refl _ w).alloc (Nat.le_refl _) (.cells #[.int .i64 lv, .int .i64 wd, .string ⟨u.toArray⟩] 28))
  have CC := Lib.hid (lCheck_c lv wd u _ (hW.below HB.out))
  have hz : (chkB lv wd u == 0) = false := by simpa using hc
  clear hW hc
  generalize chkB lv wd u = c at *
  go_enter Tryd.func13, Tryd.ntmps13
  go_wp2_with fail
  refine CC.out.mono ?_
  rintro e w1 ⟨rfl, hb1⟩
  have HE := Lib.hid (HB.out.trans (hb1.mono HB.out.size))
  clear hb1
  go_wp2
  go_ret
  exact ⟨rfl, HE.out⟩
set_option maxRecDepth 100000 in
set_option maxHeartbeats 8000000 in
theorem lCost_c (lv wd : Nat) (u : List UInt8) (hl : lv ≤ 200) (hw : wd ≤ 16) (hu : u.length ≤ 1000) (hc : chkB lv wd u = 0) (w : World) (hW : W14p w) :
    Calls Tryd.prog 13 #[.agg #[.int .i64 lv, .int .i64 wd, .string ⟨u.toArray⟩]] w fun e w' => e = .returned (.int .i64 (costB u wd lv : Nat)) ∧ Below w.heap.size w w' := by
  have HB := Lib.hid ((Below.refl _ w).alloc (Nat.le_refl _) (.cells #[.int .i64 lv, .int .i64 wd, .string ⟨u.toArray⟩] 28))
  have CC := Lib.hid (lCheck_c lv wd u _ (hW.below HB.out))
  rw [hc] at CC
  have CE : Hid (∀ W, Calls Tryd.prog 36 #[.string ⟨u.toArray⟩] W fun e w' => e = .returned (.string ⟨(esc u).toArray⟩) ∧ Below W.heap.size W w') := Lib.hid fun W => escape_c u W (by omega)
  have hel := esc_le u
  have hez : (⟨(esc u).toArray⟩ : ByteArray).size = (esc u).length := by simp [ByteArray.size]
  have H0 : Hid ((esc u).length = costB u wd 0) := Lib.hid rfl
  have hcle : ∀ i, costB u wd i ≤ 9223372036854775807 := fun i => by
    cases i with
    | zero => show (esc u).length ≤ _; omega
    | succ i => exact satN_le _
  have HCL := Lib.hid hcle
  have hs0 : (w.alloc (.cells #[.int .i64 lv, .int .i64 wd, .string ⟨u.toArray⟩] 28)).heap.size = w.heap.size + 1 := by simp
  have HC : Hid (∀ W, Below (w.heap.size + 1) (w.alloc (.cells #[.int .i64 lv, .int .i64 wd, .string ⟨u.toArray⟩] 28)) W → W.cell? ⟨w.heap.size, 0, none⟩ = some (.int .i64 lv) ∧ W.cell? ⟨w.heap.size, 1, none⟩ = some (.int .i64 wd) ∧ W.cell? ⟨w.heap.size, 2, none⟩ = some (.string ⟨u.toArray⟩)) := Lib.hid fun W hb => by
    have z := (hb.block _ (by omega)).trans (hp_new w (.cells #[.int .i64 lv, .int .i64 wd, .string ⟨u.toArray⟩] 28))
    exact ⟨by rw [cell_of 0 z]; rfl, by rw [cell_of 1 z]; rfl, by rw [cell_of 2 z]; rfl⟩
  have CR : Hid (∀ (i : Nat) W, i ≤ 200 → Hid (Below (w.heap.size + 1) (w.alloc (.cells #[.int .i64 lv, .int .i64 wd, .string ⟨u.toArray⟩] 28)) W) → Calls Tryd.prog 28 #[.int .i64 i] W fun e w' => e = .returned (.string ⟨(refB i).toArray⟩) ∧ w'.cell? ⟨w.heap.size, 1, none⟩ = some (.int .i64 wd) ∧ Hid (Below (w.heap.size + 1) (w.alloc (.cells #[.int .i64 lv, .int .i64 wd, .string ⟨u.toArray⟩] 28)) w')) := Lib.hid fun i W hi hb => by
    have hbw : Below w.heap.size w W := HB.out.trans (hb.out.mono (by omega))
    refine (lref_c i hi W (hW.below hbw).2).mono fun e w' ⟨he, hb2⟩ => ?_
    have hb3 := hb.out.trans (hb2.mono (by have := hb.out.size; rw [hs0] at this; exact this))
    exact ⟨he, (HC.out w' hb3).2.1, Lib.hid hb3⟩
  have HFIN : Hid (∀ W, Below (w.heap.size + 1) (w.alloc (.cells #[.int .i64 lv, .int .i64 wd, .string ⟨u.toArray⟩] 28)) W → Below w.heap.size w W) := Lib.hid fun W hb => HB.out.trans (hb.mono (by omega))
  clear hcle hW hc
  generalize hE : esc u = E at *
  go_enter Tryd.func13, Tryd.ntmps13
  go_wp2_with fail
  refine CC.out.mono ?_
  rintro e w1 ⟨rfl, hb1⟩
  rw [hs0] at hb1
  obtain ⟨c0, c1, c2⟩ := HC.out w1 hb1
  have HS1 := Lib.hid hb1
  clear hb1
  go_wp2_with fail
  refine (CE.out _).mono ?_
  rintro e w2 ⟨rfl, hb2⟩
  have hb2' := HS1.out.trans (hb2.mono (by have := HS1.out.size; rw [hs0] at this; exact this))
  obtain ⟨d0, d1, d2⟩ := HC.out w2 hb2'
  have HS2 := Lib.hid hb2'
  clear hb2 hb2' c0 c1 c2
  go_wp2
  go_loopw [3, 14] (fun a b wr => ∃ i : Nat, i ≤ lv ∧ a = .int .i64 (costB u wd i : Nat) ∧ b = .int .i64 i ∧ wr.cell? ⟨w.heap.size, 1, none⟩ = some (.int .i64 wd) ∧ Hid (Below (w.heap.size + 1) (w.alloc (.cells #[.int .i64 lv, .int .i64 wd, .string ⟨u.toArray⟩] 28)) wr)) (fun _ b _ => lv - (intOf b).toNat)
  case atStart => exact ⟨0, Nat.zero_le _, by rw [← H0.out], rfl, d1, HS2⟩
  case round =>
    obtain ⟨i, hi, rfl, rfl, z1, HS⟩ := hrel
    clear d0 d1 d2
    by_cases hlt : i < lv
    · have hlti : (i : Int) < (lv : Int) := by omega
      have hr := refB_le i (by omega)
      have CRi : Hid (∀ W, Hid (Below (w.heap.size + 1) (w.alloc (.cells #[.int .i64 lv, .int .i64 wd, .string ⟨u.toArray⟩] 28)) W) → Calls Tryd.prog 28 #[.int .i64 i] W fun e w' => e = .returned (.string ⟨(refB i).toArray⟩) ∧ w'.cell? ⟨w.heap.size, 1, none⟩ = some (.int .i64 wd) ∧ Hid (Below (w.heap.size + 1) (w.alloc (.cells #[.int .i64 lv, .int .i64 wd, .string ⟨u.toArray⟩] 28)) w')) := Lib.hid fun W hb => CR.out i W (by omega) hb
      have hrz : (⟨(refB i).toArray⟩ : ByteArray).size = (refB i).length := by simp [ByteArray.size]
      have CA : Hid (∀ W, Calls Tryd.prog 37 #[.int .i64 (refB i).length, .int .i64 (costB u wd i : Nat)] W fun e w' => e = .returned (.int .i64 (satN ((refB i).length + costB u wd i) : Nat)) ∧ W = w') := Lib.hid fun W => satAdd_c _ _ (by omega) (HCL.out i) W
      have CM : Hid (∀ W, Calls Tryd.prog 34 #[.int .i64 wd, .int .i64 (satN ((refB i).length + costB u wd i) : Nat)] W fun e w' => e = .returned (.int .i64 (satN (wd * satN ((refB i).length + costB u wd i)) : Nat)) ∧ W = w') := Lib.hid fun W => satMul_c _ _ (by omega) (satN_le _) W
      have HN : Hid (costB u wd (i + 1) = satN (wd * satN ((refB i).length + costB u wd i))) := Lib.hid rfl
      have HS0 : wr.drew.cell? ⟨w.heap.size, 1, none⟩ = some (.int .i64 wd) ∧ Hid (Below (w.heap.size + 1) (w.alloc (.cells #[.int .i64 lv, .int .i64 wd, .string ⟨u.toArray⟩] 28)) wr.drew) := ⟨z1, Lib.hid (Below.drew HS.out)⟩
      generalize satN (wd * satN ((refB i).length + costB u wd i)) = s2 at *
      generalize satN ((refB i).length + costB u wd i) = s1 at *
      generalize costB u wd i = ci at *
      generalize refB i = rb at *
      go_wp2_with fail
      go_region_held3 (fun w' => w'.cell? ⟨w.heap.size, 1, none⟩ = some (.int .i64 wd) ∧ Hid (Below (w.heap.size + 1) (w.alloc (.cells #[.int .i64 lv, .int .i64 wd, .string ⟨u.toArray⟩] 28)) w')) (first | exact HS0 | exact ⟨by assumption, by assumption⟩) (first | (go_at_call 28; refine (CRi.out _ HS0.2).mono ?_; rintro e w3 ⟨rfl, hc3, hb3⟩) | (go_at_call 37; refine (CA.out _).mono ?_; rintro e w4 ⟨rfl, rfl⟩) | (go_at_call 34; refine (CM.out _).mono ?_; rintro e w5 ⟨rfl, rfl⟩))
      go_wp2
      go_roundw
      case rel => exact ⟨i + 1, by omega, by rw [HN.out], by go_num, by assumption, by assumption⟩
      case measure => simp [intOf]; omega
    · obtain rfl : i = lv := by omega
      have hni : ¬ (i : Int) < (i : Int) := by omega
      have HE := Lib.hid (HFIN.out _ HS.out)
      go_wp2
      go_ret
      exact ⟨rfl, HE.out⟩
set_option maxRecDepth 100000 in
set_option maxHeartbeats 8000000 in
theorem rLength_c (lv wd : Nat) (u : List UInt8) (hl : lv ≤ 200) (hw : wd ≤ 16) (hu : u.length ≤ 1000) (w : World) :
    Calls Tryd.prog 15 #[.agg #[.int .i64 lv, .int .i64 wd, .string ⟨u.toArray⟩]] w fun e w' => e = .returned (.int .i64 (satN (u.length * wd ^ lv) : Nat)) ∧ Below w.heap.size w w' := by
  have hsz : (⟨u.toArray⟩ : ByteArray).size = u.length := by simp [ByteArray.size]
  have HB := Lib.hid ((Below.refl _ w).alloc (Nat.le_refl _) (.cells #[.int .i64 lv, .int .i64 wd, .string ⟨u.toArray⟩] 23))
  have H0 : Hid (u.length = satN (u.length * wd ^ 0)) := Lib.hid (by rw [Nat.pow_zero, Nat.mul_one, satN_id (by omega)])
  go_enter Tryd.func15, Tryd.ntmps15
  go_wp2
  go_loop [3, 4] (fun a b => ∃ (s i : Nat), s ≤ 9223372036854775807 ∧ i ≤ lv ∧ a = .int .i64 s ∧ b = .int .i64 i ∧ Hid (s = satN (u.length * wd ^ i))) (fun _ b => lv - (intOf b).toNat)
  case atStart => exact ⟨u.length, 0, by omega, Nat.zero_le _, rfl, rfl, H0⟩
  case round =>
    obtain ⟨s, i, hs, hi, rfl, rfl, HI⟩ := hrel
    by_cases hlt : i < lv
    · have hlti : (i : Int) < (lv : Int) := by omega
      have CM : Hid (∀ W, Calls Tryd.prog 41 #[.int .i64 s, .int .i64 wd] W fun e w' => e = .returned (.int .i64 (satN (s * wd) : Nat)) ∧ W = w') := Lib.hid fun W => rMul_c s wd hs (by omega) W
      have HN : Hid (satN (s * wd) = satN (u.length * wd ^ (i + 1))) := Lib.hid (by rw [HI.out, satN_mul_l, Nat.mul_assoc, ← Nat.pow_succ])
      have HL := Lib.hid (satN_le (s * wd))
      clear HI
      generalize satN (s * wd) = s2 at *
      go_wp2_with fail
      refine (CM.out _).mono ?_
      rintro e wq ⟨rfl, rfl⟩
      go_wp2
      go_round
      case rel => exact ⟨s2, i + 1, HL.out, by omega, rfl, by go_num, HN⟩
      case measure => simp [intOf]; omega
    · obtain rfl : i = lv := by omega
      have hni : ¬ (i : Int) < (i : Int) := by omega
      go_wp2
      go_ret
      exact ⟨by rw [HI.out]; rfl, HB.out⟩
set_option maxRecDepth 100000 in
set_option maxHeartbeats 8000000 in
theorem rCost_c (lv wd : Nat) (u : List UInt8) (hl : lv ≤ 200) (hw : wd ≤ 16) (hu : u.length ≤ 1000) (w : World) :
    Calls Tryd.prog 16 #[.agg #[.int .i64 lv, .int .i64 wd, .string ⟨u.toArray⟩]] w fun e w' => e = .returned (.int .i64 (costB u wd lv : Nat)) ∧ Below w.heap.size w w' := by
  have hsz : (⟨u.toArray⟩ : ByteArray).size = u.length := by simp [ByteArray.size]
  have HB := Lib.hid ((Below.refl _ w).alloc (Nat.le_refl _) (.cells #[.int .i64 lv, .int .i64 wd, .string ⟨u.toArray⟩] 23))
  have CE : Hid (∀ W, Calls Tryd.prog 38 #[.string ⟨u.toArray⟩] W fun e w' => e = .returned (.string ⟨(esc u).toArray⟩) ∧ W = w') := Lib.hid fun W => refEscape_c u W (by omega)
  have hel := esc_le u
  have hez : (⟨(esc u).toArray⟩ : ByteArray).size = (esc u).length := by simp [ByteArray.size]
  have H0 : Hid ((esc u).length = costB u wd 0) := Lib.hid rfl
  have hcle : ∀ i, costB u wd i ≤ 9223372036854775807 := fun i => by
    cases i with
    | zero => show (esc u).length ≤ _; omega
    | succ i => exact satN_le _
  have HCL := Lib.hid hcle
  clear hcle
  generalize hE : esc u = E at *
  go_enter Tryd.func16, Tryd.ntmps16
  go_wp2_with fail
  refine (CE.out _).mono ?_
  rintro e w1 ⟨rfl, rfl⟩
  go_wp2
  go_loop [3, 4] (fun a b => ∃ (i : Nat), i ≤ lv ∧ a = .int .i64 (costB u wd i : Nat) ∧ b = .int .i64 i) (fun _ b => lv - (intOf b).toNat)
  case atStart => exact ⟨0, Nat.zero_le _, by rw [← H0.out], rfl⟩
  case round =>
    obtain ⟨i, hi, rfl, rfl⟩ := hrel
    by_cases hlt : i < lv
    · have hlti : (i : Int) < (lv : Int) := by omega
      have hr := refB_le i (by omega)
      have CR : Hid (∀ W, Calls Tryd.prog 39 #[.int .i64 i] W fun e w' => e = .returned (.string ⟨(refB i).toArray⟩) ∧ W = w') := Lib.hid fun W => rref_c i (by omega) W
      have hrz : (⟨(refB i).toArray⟩ : ByteArray).size = (refB i).length := by simp [ByteArray.size]
      have CA : Hid (∀ W, Calls Tryd.prog 42 #[.int .i64 (refB i).length, .int .i64 (costB u wd i : Nat)] W fun e w' => e = .returned (.int .i64 (satN ((refB i).length + costB u wd i) : Nat)) ∧ W = w') := Lib.hid fun W => rAdd_c _ _ (by omega) (HCL.out i) W
      have HX := Lib.hid (satN_le ((refB i).length + costB u wd i))
      have HS : Hid (costB u wd (i + 1) = satN (wd * satN ((refB i).length + costB u wd i))) := Lib.hid rfl
      generalize satN ((refB i).length + costB u wd i) = x at *
      generalize costB u wd i = ci at *
      generalize refB i = rb at *
      go_wp2
      go_loop [5, 6] (fun a b => ∃ (k : Nat), k ≤ wd ∧ a = .int .i64 (satN (k * x) : Nat) ∧ b = .int .i64 k) (fun _ b => wd - (intOf b).toNat)
      case atStart => exact ⟨0, Nat.zero_le _, by simp [satN], rfl⟩
      case round =>
        obtain ⟨k, hk, rfl, rfl⟩ := hrel
        by_cases hkl : k < wd
        · have hkli : (k : Int) < (wd : Int) := by omega
          have CB : Hid (∀ W, Calls Tryd.prog 42 #[.int .i64 (satN (k * x) : Nat), .int .i64 x] W fun e w' => e = .returned (.int .i64 (satN (satN (k * x) + x) : Nat)) ∧ W = w') := Lib.hid fun W => rAdd_c _ _ (satN_le _) HX.out W
          have HN : Hid (satN (satN (k * x) + x) = satN ((k + 1) * x)) := Lib.hid (by
            have := satN_add (k * x) x
            rw [satN_id HX.out] at this
            rw [this, Nat.add_mul, Nat.one_mul])
          have HL := Lib.hid (satN_le (k * x))
          generalize satN (satN (k * x) + x) = s2 at *
          generalize satN (k * x) = s1 at *
          go_wp2_with fail
          refine (CR.out _).mono ?_
          rintro e w2 ⟨rfl, rfl⟩
          go_wp2_with fail
          refine (CA.out _).mono ?_
          rintro e w2 ⟨rfl, rfl⟩
          go_wp2_with fail
          refine (CB.out _).mono ?_
          rintro e w2 ⟨rfl, rfl⟩
          go_wp2
          go_round
          case rel => exact ⟨k + 1, by omega, by rw [HN.out], by go_num⟩
          case measure => simp [intOf]; omega
        · obtain rfl : k = wd := by omega
          have hni : ¬ (k : Int) < (k : Int) := by omega
          go_wp2
          go_round
          case rel => exact ⟨i + 1, by omega, by rw [HS.out], by go_num⟩
          case measure => simp [intOf]; omega
    · obtain rfl : i = lv := by omega
      have hni : ¬ (i : Int) < (i : Int) := by omega
      go_wp2
      go_ret
      exact ⟨rfl, HB.out⟩
set_option maxRecDepth 100000 in
set_option maxHeartbeats 16000000 in
theorem rDoc_c (lv wd : Nat) (u : List UInt8) (hl : lv ≤ 200) (hw : wd ≤ 16) (hu : u.length ≤ 1000) (w : World) :
    Calls Tryd.prog 14 #[.agg #[.int .i64 lv, .int .i64 wd, .string ⟨u.toArray⟩]] w fun e w' => e = .returned (.string ⟨(docB u wd lv).toArray⟩) ∧ Below w.heap.size w w' := by
  have HB := Lib.hid ((Below.refl _ w).alloc (Nat.le_refl _) (.cells #[.int .i64 lv, .int .i64 wd, .string ⟨u.toArray⟩] 23))
  have CE : Hid (∀ W, Calls Tryd.prog 38 #[.string ⟨u.toArray⟩] W fun e w' => e = .returned (.string ⟨(esc u).toArray⟩) ∧ W = w') := Lib.hid fun W => refEscape_c u W (by omega)
  have hel := esc_le u
  have CP : Hid (∀ W, Calls Tryd.prog 31 #[.string ⟨(esc u).toArray⟩] W fun e w' => e = .returned (.tuple #[.string ⟨(putOut (esc u)).1.toArray⟩, .int .i64 (putOut (esc u)).2]) ∧ Below W.heap.size W w') := Lib.hid fun W => refPut14_c (esc u) W (by omega)
  have HV0 : Hid (valB u wd 0 = (putOut (esc u)).1) := Lib.hid rfl
  have HVS : Hid (∀ i, 0 < i → valB u wd i = repB (refB (i - 1)) wd) := Lib.hid fun i hi => by unfold valB; rw [if_neg (by omega)]
  have HVL := Lib.hid (fun i (h : i ≤ 200) => valB_le u wd i hu hw h)
  have HBL := Lib.hid (fun i (h : i ≤ 201) => bodyB_le u wd hu hw i h)
  have HBS : Hid (∀ i, bodyB u wd (i + 1) = bodyB u wd i ++ declB i (valB u wd i)) := Lib.hid fun i => rfl
  have HD : Hid (docB u wd lv = [60, 33, 68, 79, 67, 84, 89, 80, 69, 32, 97, 32, 91] ++ bodyB u wd (lv + 1) ++ [93, 62, 60, 97, 62] ++ refB lv ++ [60, 47, 97, 62]) := Lib.hid rfl
  have H0 : Hid ([60, 33, 68, 79, 67, 84, 89, 80, 69, 32, 97, 32, 91] = [60, 33, 68, 79, 67, 84, 89, 80, 69, 32, 97, 32, 91] ++ bodyB u wd 0) := Lib.hid (by simp [bodyB])
  have HC : Hid (∀ W, Below (w.heap.size + 1) (w.alloc (.cells #[.int .i64 lv, .int .i64 wd, .string ⟨u.toArray⟩] 23)) W → W.cell? ⟨w.heap.size, 0, none⟩ = some (.int .i64 lv) ∧ W.cell? ⟨w.heap.size, 1, none⟩ = some (.int .i64 wd) ∧ W.cell? ⟨w.heap.size, 2, none⟩ = some (.string ⟨u.toArray⟩)) := Lib.hid fun W hb => by
    have z := (hb.block _ (by omega)).trans (hp_new w (.cells #[.int .i64 lv, .int .i64 wd, .string ⟨u.toArray⟩] 23))
    exact ⟨by rw [cell_of 0 z]; rfl, by rw [cell_of 1 z]; rfl, by rw [cell_of 2 z]; rfl⟩
  generalize hw0 : w.alloc (.cells #[.int .i64 lv, .int .i64 wd, .string ⟨u.toArray⟩] 23) = w0 at *
  have hs0 : w0.heap.size = w.heap.size + 1 := by rw [← hw0]; simp
  go_enter Tryd.func14, Tryd.ntmps14
  go_wp2
  go_loopw [3, 4] (fun a b wr => ∃ (i : Nat), i ≤ lv + 1 ∧ a = .string ⟨([60, 33, 68, 79, 67, 84, 89, 80, 69, 32, 97, 32, 91] ++ bodyB u wd i).toArray⟩ ∧ b = .int .i64 i ∧ Hid (Below w0.heap.size w0 wr)) (fun _ b _ => lv + 1 - (intOf b).toNat)
  case atStart => exact ⟨0, Nat.zero_le _, by rw [← H0.out], rfl, Lib.hid (Below.refl _ _)⟩
  case round =>
    obtain ⟨i, hi, rfl, rfl, HW⟩ := hrel
    obtain ⟨z0, z1, z2⟩ := HC.out wr (by rw [← hs0]; exact HW.out)
    by_cases hle : i ≤ lv
    · have hlei : (i : Int) ≤ (lv : Int) := by omega
      have HLV : Hid (i ≤ lv) := Lib.hid hle
      have CD : Hid (∀ W, Calls Tryd.prog 40 #[.int .i64 i] W fun e w' => e = .returned (.string ⟨(Lib.decDigits i).toArray⟩) ∧ W = w') := Lib.hid fun W => refDigits_c i (by omega) W
      have hdl := dec_le200 i (by omega)
      have hvl := HVL.out i (by omega)
      have hbl := HBL.out i (by omega)
      have HN : Hid ([60, 33, 68, 79, 67, 84, 89, 80, 69, 32, 97, 32, 91] ++ bodyB u wd (i + 1) = [60, 33, 68, 79, 67, 84, 89, 80, 69, 32, 97, 32, 91] ++ bodyB u wd i ++ [60, 33, 69, 78, 84, 73, 84, 89, 32, 101] ++ Lib.decDigits i ++ [32, 34] ++ valB u wd i ++ [34, 62]) := Lib.hid (by rw [HBS.out]; simp [declB])
      have hSl : ([60, 33, 68, 79, 67, 84, 89, 80, 69, 32, 97, 32, 91] ++ bodyB u wd i).length ≤ 8000000 := by simp; omega
      generalize [60, 33, 68, 79, 67, 84, 89, 80, 69, 32, 97, 32, 91] ++ bodyB u wd i = S at *
      generalize hV : valB u wd i = V at *
      generalize Lib.decDigits i = D at *
      have hs1 : ∀ w : World, (Op.stringOp .add ⟨S.toArray⟩ ⟨#[60, 33, 69, 78, 84, 73, 84, 89, 32, 101]⟩).run Tryd.prog w = .ok (.string ⟨(S ++ [60, 33, 69, 78, 84, 73, 84, 89, 32, 101]).toArray⟩) w := fun w => run_sop (w := w) S [60, 33, 69, 78, 84, 73, 84, 89, 32, 101] (by simp; omega)
      have hs2 : ∀ w : World, (Op.stringOp .add ⟨(S ++ [60, 33, 69, 78, 84, 73, 84, 89, 32, 101]).toArray⟩ ⟨D.toArray⟩).run Tryd.prog w = .ok (.string ⟨(S ++ [60, 33, 69, 78, 84, 73, 84, 89, 32, 101] ++ D).toArray⟩) w := fun w => run_sop (w := w) _ D (by simp; omega)
      have hs3 : ∀ w : World, (Op.stringOp .add ⟨(S ++ [60, 33, 69, 78, 84, 73, 84, 89, 32, 101] ++ D).toArray⟩ ⟨#[32, 34]⟩).run Tryd.prog w = .ok (.string ⟨(S ++ [60, 33, 69, 78, 84, 73, 84, 89, 32, 101] ++ D ++ [32, 34]).toArray⟩) w := fun w => run_sop (w := w) _ [32, 34] (by simp; omega)
      have hs4 : ∀ w : World, (Op.stringOp .add ⟨(S ++ [60, 33, 69, 78, 84, 73, 84, 89, 32, 101] ++ D ++ [32, 34]).toArray⟩ ⟨V.toArray⟩).run Tryd.prog w = .ok (.string ⟨(S ++ [60, 33, 69, 78, 84, 73, 84, 89, 32, 101] ++ D ++ [32, 34] ++ V).toArray⟩) w := fun w => run_sop (w := w) _ V (by simp; omega)
      have hs5 : ∀ w : World, (Op.stringOp .add ⟨(S ++ [60, 33, 69, 78, 84, 73, 84, 89, 32, 101] ++ D ++ [32, 34] ++ V).toArray⟩ ⟨#[34, 62]⟩).run Tryd.prog w = .ok (.string ⟨(S ++ [60, 33, 69, 78, 84, 73, 84, 89, 32, 101] ++ D ++ [32, 34] ++ V ++ [34, 62]).toArray⟩) w := fun w => run_sop (w := w) _ [34, 62] (by simp; omega)
      clear hdl hvl hbl hSl
      generalize S ++ [60, 33, 69, 78, 84, 73, 84, 89, 32, 101] ++ D ++ [32, 34] ++ V ++ [34, 62] = S5 at *
      generalize S ++ [60, 33, 69, 78, 84, 73, 84, 89, 32, 101] ++ D ++ [32, 34] ++ V = S4 at *
      generalize S ++ [60, 33, 69, 78, 84, 73, 84, 89, 32, 101] ++ D ++ [32, 34] = S3 at *
      generalize S ++ [60, 33, 69, 78, 84, 73, 84, 89, 32, 101] ++ D = S2 at *
      generalize S ++ [60, 33, 69, 78, 84, 73, 84, 89, 32, 101] = S1 at *
      by_cases hi0 : i = 0
      · subst hi0
        have CP1 : Hid (Calls Tryd.prog 31 #[.string ⟨(esc u).toArray⟩] wr fun e w' => e = .returned (.tuple #[.string ⟨V.toArray⟩, .int .i64 (putOut (esc u)).2]) ∧ Below wr.heap.size wr w') := Lib.hid (by
          have := CP.out wr
          rw [← HV0.out, hV] at this
          exact this)
        generalize esc u = E at *
        generalize (putOut E).2 = pe at *
        go_wp2_with fail
        refine (CE.out _).mono ?_
        rintro e wq ⟨rfl, rfl⟩
        go_wp2_with fail
        refine CP1.out.mono ?_
        rintro e w2 ⟨rfl, hb2⟩
        have HW2 := Lib.hid (HW.out.trans (hb2.mono HW.out.size))
        obtain ⟨y0, y1, y2⟩ := HC.out w2 (by rw [← hs0]; exact HW2.out)
        clear hb2
        go_wp2_with fail
        refine wp_loop_rounds 1 ?_
        rw [rounds_succ]
        by_cases hwd : (0 : Int) < (wd : Int)
        · skip
          go_wp2_with fail
          refine (CD.out _).mono ?_
          rintro e wq ⟨rfl, rfl⟩
          go_wp2
          go_roundw
          case rel => exact ⟨0 + 1, by omega, by rw [HN.out], by go_num, HW2⟩
          case measure => simp [intOf]
        · skip
          go_wp2_with fail
          refine (CD.out _).mono ?_
          rintro e wq ⟨rfl, rfl⟩
          go_wp2
          go_roundw
          case rel => exact ⟨0 + 1, by omega, by rw [HN.out], by go_num, HW2⟩
          case measure => simp [intOf]
      · have hi1 : (0 : Int) < (i : Int) := by omega
        have hiz : ((i : Int) == 0) = false := by simpa using hi0
        obtain ⟨j, hj⟩ : ∃ j, i = j + 1 := ⟨i - 1, by omega⟩
        have hsub : (i : Int) - 1 = (j : Int) := by omega
        have HVV : Hid (V = repB (refB j) wd) := Lib.hid (by rw [← hV, HVS.out i (by omega)]; congr 2; omega)
        have CR : Hid (∀ W, Calls Tryd.prog 39 #[.int .i64 j] W fun e w' => e = .returned (.string ⟨(refB j).toArray⟩) ∧ W = w') := Lib.hid fun W => rref_c j (by omega) W
        have hrl := refB_le j (by omega)
        have HRL := Lib.hid hrl
        clear hj hV hrl
        generalize refB j = rb at *
        go_wp2
        go_loop [5, 6] (fun a b => ∃ k : Nat, k ≤ wd ∧ a = .string ⟨(repB rb k).toArray⟩ ∧ b = .int .i64 k) (fun _ b => wd - (intOf b).toNat)
        case atStart => exact ⟨0, Nat.zero_le _, rfl, rfl⟩
        case round =>
          obtain ⟨k, hk, rfl, rfl⟩ := hrel
          by_cases hkl : k < wd
          · have hkli : (k : Int) < (wd : Int) := by omega
            have hrk := repB_le rb k
            have hsr : (Op.stringOp .add ⟨(repB rb k).toArray⟩ ⟨rb.toArray⟩).run Tryd.prog wr = .ok (.string ⟨(repB rb k ++ rb).toArray⟩) wr := run_sop (w := wr) _ rb (by
              have := HRL.out
              have : k * rb.length ≤ 16 * 6 := Nat.mul_le_mul (by omega) this
              omega)
            have HRS : Hid (repB rb (k + 1) = repB rb k ++ rb) := Lib.hid rfl
            clear hrk
            generalize repB rb k ++ rb = r2 at *
            generalize repB rb k = r1 at *
            go_wp2_with fail
            refine (CR.out _).mono ?_
            rintro e wq ⟨rfl, rfl⟩
            go_wp2
            go_round
            case rel => exact ⟨k + 1, by omega, by rw [HRS.out], by go_num⟩
            case measure => simp [intOf]; omega
          · obtain rfl : k = wd := by omega
            have hnk : ¬ (k : Int) < (k : Int) := by omega
            rw [← HVV.out]
            go_wp2_with fail
            refine (CD.out _).mono ?_
            rintro e wq ⟨rfl, rfl⟩
            go_wp2
            go_roundw
            case rel => exact ⟨i + 1, by have := HLV.out; omega, by rw [HN.out], by go_num, HW⟩
            case measure => simp [intOf]; have := HLV.out; omega
    · obtain rfl : i = lv + 1 := by omega
      have hlei : ¬ ((lv + 1 : Nat) : Int) ≤ (lv : Int) := by omega
      have CR : Hid (∀ W, Calls Tryd.prog 39 #[.int .i64 lv] W fun e w' => e = .returned (.string ⟨(refB lv).toArray⟩) ∧ W = w') := Lib.hid fun W => rref_c lv (by omega) W
      have hrl := refB_le lv (by omega)
      have hbl := HBL.out (lv + 1) (by omega)
      have hSl : ([60, 33, 68, 79, 67, 84, 89, 80, 69, 32, 97, 32, 91] ++ bodyB u wd (lv + 1)).length ≤ 8000000 := by simp; omega
      generalize [60, 33, 68, 79, 67, 84, 89, 80, 69, 32, 97, 32, 91] ++ bodyB u wd (lv + 1) = S at *
      generalize refB lv = rb at *
      have hs1 : (Op.stringOp .add ⟨S.toArray⟩ ⟨#[93, 62, 60, 97, 62]⟩).run Tryd.prog wr = .ok (.string ⟨(S ++ [93, 62, 60, 97, 62]).toArray⟩) wr := run_sop (w := wr) S [93, 62, 60, 97, 62] (by simp; omega)
      have hs2 : (Op.stringOp .add ⟨(S ++ [93, 62, 60, 97, 62]).toArray⟩ ⟨rb.toArray⟩).run Tryd.prog wr = .ok (.string ⟨(S ++ [93, 62, 60, 97, 62] ++ rb).toArray⟩) wr := run_sop (w := wr) _ rb (by simp; omega)
      have hs3 : (Op.stringOp .add ⟨(S ++ [93, 62, 60, 97, 62] ++ rb).toArray⟩ ⟨#[60, 47, 97, 62]⟩).run Tryd.prog wr = .ok (.string ⟨(S ++ [93, 62, 60, 97, 62] ++ rb ++ [60, 47, 97, 62]).toArray⟩) wr := run_sop (w := wr) _ [60, 47, 97, 62] (by simp; omega)
      clear hSl hbl hrl
      generalize S ++ [93, 62, 60, 97, 62] ++ rb ++ [60, 47, 97, 62] = S3 at *
      generalize S ++ [93, 62, 60, 97, 62] ++ rb = S2 at *
      generalize S ++ [93, 62, 60, 97, 62] = S1 at *
      have HE : Hid (Below w.heap.size w wr) := Lib.hid (HB.out.trans (HW.out.mono HB.out.size))
      go_wp2_with fail
      refine (CR.out _).mono ?_
      rintro e wq ⟨rfl, rfl⟩
      go_wp2
      go_ret
      rw [HD.out]
      exact ⟨rfl, HE.out⟩
end Go.Proofs.YtljmpghijlibaaaDoor
