/- misc: what stands between marks: marked texts. -/
import Derived.Test.YteighjiocgdgaaaDoorRows
import Derived.WalkKit
import Derived.ProofKit
import Derived.OpenShut
import Derived.ShutString
import Derived.ChangeOld
import Derived.Below
import Derived.BigQuiet
import Derived.Deep.QuietTactic
import Derived.Lib.Hide
import Derived.Deep.RegionHeld3
import Derived.Lib.SlBytesConst
import Derived.Laws.CopyOwn
import Derived.Laws.CopyRow
import Derived.Lib.Bytes
import Derived.Deep.LoopGhost
import Derived.Deep.DeepFit
import Derived.Deep.DeepMust
import Derived.WalkSpells
import Derived.WalkLawsBesides
import Derived.StillTailTactics
import Derived.Laws.EntriesVeiled
import Derived.Laws.Rows
import Derived.Deep.RegionWith
import Derived.Test.YteighjiocgdgaaaDoorBase
import Derived.Test.YteighjiocgdgaaaDoorShelf
import Derived.Test.YteighjiocgdgaaaDoorCharPlain
import Derived.Test.YteighjiocgdgaaaDoorName1
import Derived.Test.YteighjiocgdgaaaDoorName2
import Derived.Test.YteighjiocgdgaaaDoorName3
import Derived.Test.YteighjiocgdgaaaDoorBuild
import Derived.Test.YteighjiocgdgaaaDoorEsc
import Derived.Test.YteighjiocgdgaaaDoorStr
import Derived.Test.YteighjiocgdgaaaDoorLibB
import Derived.Test.YteighjiocgdgaaaDoorMiscP
import Derived.Test.YteighjiocgdgaaaDoorMisc3
namespace Go.Proofs.YteighjiocgdgaaaDoor
open Go.ChangeShapes Go.WideShapes Go.ChangeAt Go.RowKit
set_option linter.unusedVariables false
def cdatasV : Value := .agg #[.string ⟨#[60, 33, 91, 67, 68, 65, 84, 65, 91]⟩, .string ⟨#[93, 93, 62]⟩, .func (.func 120) #[] #[]]
set_option maxRecDepth 100000 in
set_option maxHeartbeats 4000000 in
theorem cdatas_c (w : World) : Calls Tryd.prog 83 #[] w fun e w' => e = .returned cdatasV ∧ Below w.heap.size w w' := by
  have hF := Lib.hid (hp_new w (.cells #[.string ⟨#[60, 33, 91, 67, 68, 65, 84, 65, 91]⟩, .string ⟨#[93, 93, 62]⟩, .func (.func 120) #[] #[]] 110))
  have hb := Lib.hid (Below.alloc (Below.refl w.heap.size w) (Nat.le_refl _) (.cells #[.string ⟨#[60, 33, 91, 67, 68, 65, 84, 65, 91]⟩, .string ⟨#[93, 93, 62]⟩, .func (.func 120) #[] #[]] 110))
  go_enter Tryd.func83, Tryd.ntmps83
  go_wp2
  have hi : (Tryd.prog.info? 110).map (·.size) = some 3 := by kernel_rfl
  obtain ⟨d, hu⟩ := isStruct_of (P := Tryd.prog) (t := 110) (by kernel_rfl)
  (try simp only [Exit.inBlock, Exit.then])
  refine bodyPost_ret (results_cell_row rfl _ _ w.heap.size _ _ _ _ rfl hF.out hu rfl hi) rfl ⟨rfl, hb.out⟩
set_option maxRecDepth 100000 in
set_option maxHeartbeats 4000000 in
theorem cdatasRead_range (A : Option Addr) (n cap : Nat) (at_ : Int) (w : World) (ha : at_ < 0 ∨ (n : Int) < at_) :
    Calls Tryd.prog 82 #[cdatasV, .slice A n cap, .int .i64 at_] w fun e w' => e = .returned (outV ([], 0, 3)) ∧ Below w.heap.size w w' := by
  have hb := Lib.hid (Below.alloc (Below.refl w.heap.size w) (Nat.le_refl _) (.cells #[.string ⟨#[60, 33, 91, 67, 68, 65, 84, 65, 91]⟩, .string ⟨#[93, 93, 62]⟩, .func (.func 120) #[] #[]] 110))
  unfold cdatasV
  by_cases h0 : at_ < 0
  · have hd : decide (at_ < 0) = true := by simpa using h0
    clear ha
    go_enter Tryd.func82, Tryd.ntmps82
    go_wp2
    go_ret3
    exact ⟨rfl, hb.out⟩
  · have h1 : (n : Int) < at_ := by omega
    clear ha
    go_enter Tryd.func82, Tryd.ntmps82
    go_wp2
    go_ret3
    exact ⟨rfl, hb.out⟩
set_option maxRecDepth 100000 in
set_option maxHeartbeats 4000000 in
theorem cdatas1_c (s : List UInt8) (w : World) (hM : MaxL w) (hs : s.length ≤ 500000) :
    Calls Tryd.prog 120 #[.string ⟨s.toArray⟩] w fun e w' => e = .returned (.bool (mayCData s)) ∧ w = w' := by
  have C1 := Lib.hid (contains_c s [93, 93, 62] w hM (by omega))
  unfold mayCData
  generalize Lib.contains s [93, 93, 62] = r at *
  clear hM hs
  cases r
  all_goals
    go_enter Tryd.func120, Tryd.ntmps120
    go_wp2_with fail
    refine (C1.out).mono ?_
    rintro e wq ⟨rfl, rfl⟩
    go_wp2
    go_ret
    exact ⟨rfl, rfl⟩
set_option maxRecDepth 100000 in
set_option maxHeartbeats 4000000 in
theorem cdatasRead_c (A : Option Addr) (n cap : Nat) (l : List UInt8) (k : Nat) (w : World) (h : Byt w w.heap.size A n cap l) (hM : MaxL w) (hm : n ≤ 100000) (hk : k ≤ n) :
    Calls Tryd.prog 82 #[cdatasV, .slice A n cap, .int .i64 k] w fun e w' => e = .returned (outV (markedOut [60, 33, 91, 67, 68, 65, 84, 65, 91] [93, 93, 62] mayCData l k)) ∧ Below w.heap.size w w' := by
  have hk' : ¬ (n : Int) < (k : Int) := by omega
  have hk0 : (0 : Int) ≤ (k : Int) := by omega
  have hk1 : (k : Int) ≤ 100000 := by omega
  have f0 := hp_new w (.cells #[.string ⟨#[60, 33, 91, 67, 68, 65, 84, 65, 91]⟩, .string ⟨#[93, 93, 62]⟩, .func (.func 120) #[] #[]] 110)
  have z0 : (w.alloc (.cells #[.string ⟨#[60, 33, 91, 67, 68, 65, 84, 65, 91]⟩, .string ⟨#[93, 93, 62]⟩, .func (.func 120) #[] #[]] 110)).cell? ⟨w.heap.size, 0, none⟩ = some (.string ⟨#[60, 33, 91, 67, 68, 65, 84, 65, 91]⟩) := cell_of 0 f0
  have z1 : (w.alloc (.cells #[.string ⟨#[60, 33, 91, 67, 68, 65, 84, 65, 91]⟩, .string ⟨#[93, 93, 62]⟩, .func (.func 120) #[] #[]] 110)).cell? ⟨w.heap.size, 1, none⟩ = some (.string ⟨#[93, 93, 62]⟩) := cell_of 1 f0
  have z2 : (w.alloc (.cells #[.string ⟨#[60, 33, 91, 67, 68, 65, 84, 65, 91]⟩, .string ⟨#[93, 93, 62]⟩, .func (.func 120) #[] #[]] 110)).cell? ⟨w.heap.size, 2, none⟩ = some (.func (.func 120) #[] #[]) := cell_of 2 f0
  have hb0 : Below w.heap.size w (w.alloc (.cells #[.string ⟨#[60, 33, 91, 67, 68, 65, 84, 65, 91]⟩, .string ⟨#[93, 93, 62]⟩, .func (.func 120) #[] #[]] 110)) := Below.alloc (Below.refl _ _) (Nat.le_refl _) _
  have hJ0 : MkJ [60, 33, 91, 67, 68, 65, 84, 65, 91] [93, 93, 62] 120 w (w.alloc (.cells #[.string ⟨#[60, 33, 91, 67, 68, 65, 84, 65, 91]⟩, .string ⟨#[93, 93, 62]⟩, .func (.func 120) #[] #[]] 110)) := ⟨hb0, by simp, z0, z1, z2⟩
  have HH := Lib.hid (And.intro h hM)
  have hcap := h.le
  have hln := h.length
  have hrf : ∀ W : World, (Instr.slice 22 (.slice A n cap) (some (.int .i64 (k : Int))) none none).run Tryd.prog W = .ok (.slice (cutA A cap k) (n - k) (cap - k)) W := fun W => run_from A n cap k hk
  have hcv : ∀ W : World, (convert 9 22 (.string ⟨#[60, 33, 91, 67, 68, 65, 84, 65, 91]⟩)).run Tryd.prog W = .ok (.slice (some ⟨W.heap.size, 0, none⟩) 9 (grownCap W 9 0 5)) (Lib.bytesWorld W 5 ⟨#[60, 33, 91, 67, 68, 65, 84, 65, 91]⟩) := fun W => run_toBytes W [60, 33, 91, 67, 68, 65, 84, 65, 91]
  have hcq : ∀ W : World, (convert 9 22 (.string ⟨#[93, 93, 62]⟩)).run Tryd.prog W = .ok (.slice (some ⟨W.heap.size, 0, none⟩) 3 (grownCap W 3 0 5)) (Lib.bytesWorld W 5 ⟨#[93, 93, 62]⟩) := fun W => run_toBytes W [93, 93, 62]
  have hsize : (w.alloc (.cells #[.string ⟨#[60, 33, 91, 67, 68, 65, 84, 65, 91]⟩, .string ⟨#[93, 93, 62]⟩, .func (.func 120) #[] #[]] 110)).heap.size = w.heap.size + 1 := by simp
  have HCI : Hid (∀ (R : Option Addr) (rn rc : Nat) (rl : List UInt8), (∀ W, MkJ [60, 33, 91, 67, 68, 65, 84, 65, 91] [93, 93, 62] 120 w W → Byt W w.heap.size R rn rc rl) → rn ≤ 100000 → ∀ W : World, Hid (MkJ [60, 33, 91, 67, 68, 65, 84, 65, 91] [93, 93, 62] 120 w W) → Calls Tryd.prog 86 #[.slice R rn rc, .slice (some ⟨W.heap.size, 0, none⟩) 3 (grownCap W 3 0 5)] (Lib.bytesWorld W 5 ⟨#[93, 93, 62]⟩) fun e w' => e = .returned (.int .i64 (Lib.index rl [93, 93, 62])) ∧ Hid (MkJ [60, 33, 91, 67, 68, 65, 84, 65, 91] [93, 93, 62] 120 w w')) := Lib.hid fun R rn rc rl hR hrn W HJ => by
    have hJ1 := HJ.out.kept (Lib.bytesWorld_below W 5 ⟨#[93, 93, 62]⟩)
    exact (bindex_c R _ rn rc 3 _ rl [93, 93, 62] _ _ _ (hR _ hJ1) (byt_new W [93, 93, 62] (by simp)) (HH.out.2.below hJ1.1 HH.out.2.lt) (by omega) (by omega) (by omega)).mono fun e w' ⟨he, q, hq⟩ => ⟨he, Lib.hid (hq ▸ hJ1.drewN q)⟩
  have hA : ∀ W, MkJ [60, 33, 91, 67, 68, 65, 84, 65, 91] [93, 93, 62] 120 w W → Byt W w.heap.size A n cap l := fun W hJ => h.below hJ.1
  by_cases hp : [60, 33, 91, 67, 68, 65, 84, 65, 91].isPrefixOf (l.drop k) = true
  · have hkl : k + 9 ≤ n := by have := pre_len hp; simp at this; omega
    have CP : Hid (∀ W : World, Hid (∃ m, W = (w.alloc (.cells #[.string ⟨#[60, 33, 91, 67, 68, 65, 84, 65, 91]⟩, .string ⟨#[93, 93, 62]⟩, .func (.func 120) #[] #[]] 110)).drewN m) → Calls Tryd.prog 78 #[.slice (cutA A cap k) (n - k) (cap - k), .slice (some ⟨w.heap.size + 1, 0, none⟩) 9 (grownCap W 9 0 5)] (Lib.bytesWorld W 5 ⟨#[60, 33, 91, 67, 68, 65, 84, 65, 91]⟩) fun e w' => e = .returned (.tuple #[.slice (cutA (cutA A cap k) (cap - k) 9) (n - k - 9) (cap - k - 9), .bool true]) ∧ Hid (MkJ [60, 33, 91, 67, 68, 65, 84, 65, 91] [93, 93, 62] 120 w w')) := Lib.hid fun W HW => by
      obtain ⟨m, rfl⟩ := HW.out
      have hJ1 := (hJ0.drewN m).kept (Lib.bytesWorld_below _ 5 ⟨#[60, 33, 91, 67, 68, 65, 84, 65, 91]⟩)
      have hn := byt_new ((w.alloc (.cells #[.string ⟨#[60, 33, 91, 67, 68, 65, 84, 65, 91]⟩, .string ⟨#[93, 93, 62]⟩, .func (.func 120) #[] #[]] 110)).drewN m) [60, 33, 91, 67, 68, 65, 84, 65, 91] (by simp)
      rw [show ((w.alloc (.cells #[.string ⟨#[60, 33, 91, 67, 68, 65, 84, 65, 91]⟩, .string ⟨#[93, 93, 62]⟩, .func (.func 120) #[] #[]] 110)).drewN m).heap.size = w.heap.size + 1 from hsize] at hn
      exact (cutPrefix_yes _ _ _ _ _ _ _ _ _ _ _ ((hA _ hJ1).drop hk) hn (by simp) hp).mono fun e w' ⟨he, hw⟩ => ⟨he, Lib.hid (hw ▸ hJ1)⟩
    have hR : ∀ W, MkJ [60, 33, 91, 67, 68, 65, 84, 65, 91] [93, 93, 62] 120 w W → Byt W w.heap.size (cutA (cutA A cap k) (cap - k) 9) (n - k - 9) (cap - k - 9) (l.drop (k + 9)) := fun W hJ => by
      have := ((hA W hJ).drop hk).drop (k := 9) (by omega)
      rwa [List.drop_drop] at this
    have CI := Lib.hid (HCI.out _ _ _ _ hR (by omega))
    have HR := Lib.hid hR
    have hix := Lib.index_spec (l.drop (k + 9)) [93, 93, 62]
    have hrc : n - k - 9 ≤ cap - k - 9 := by omega
    have HRL : Hid ((l.drop (k + 9)).length = n - k - 9) := Lib.hid (by rw [List.length_drop]; omega)
    rcases hix with ⟨hi, _⟩ | ⟨j, hi, hj, hoc, _⟩
    · have HE : Hid (markedOut [60, 33, 91, 67, 68, 65, 84, 65, 91] [93, 93, 62] mayCData l k = ([], 0, 7)) := Lib.hid (marked_no rfl fun _ j hj => by
        have hj' : Lib.index (l.drop (k + 9)) [93, 93, 62] = (j : Int) := hj
        rw [hi] at hj'; omega)
      rw [HE.out]
      rw [hi] at CI
      clear h hM hb0 f0 hJ0 hA hR hi HE HCI hln hsize HRL hkl hrc z1 z2 hp
      generalize cutA (cutA A cap k) (cap - k) 9 = R at *
      generalize n - k - 9 = rn at *
      generalize cap - k - 9 = rc at *
      unfold cdatasV
      go_enter Tryd.func82, Tryd.ntmps82
      go_wp2
      go_region_with (first
        | (go_at_call 78; refine (CP.out _ (by first | exact Lib.hid ⟨0, rfl⟩ | exact Lib.hid ⟨1, rfl⟩ | exact Lib.hid ⟨2, rfl⟩ | exact Lib.hid ⟨3, rfl⟩)).mono ?_; rintro e w1 ⟨rfl, HJ1⟩))
      all_goals
        clear hcv z0
        have z1 := HJ1.out.2.2.2.1
        go_wp2_with fail
        refine (CI.out _ HJ1).mono ?_
        rintro e w2 ⟨rfl, HJ2⟩
        clear hcq z1
        go_wp2
        go_quiet (fail)
        have HJ3 := Lib.hid (HJ2.out.drewN nq)
        generalize w2.drewN nq = w3 at *
        go_wp2
        go_ret3
        exact ⟨rfl, HJ3.out.1⟩
    · have hjr : j ≤ n - k - 9 := by have := HRL.out; omega
      have hj0 : (0 : Int) ≤ (j : Int) := by omega
      have hj1 : (j : Int) ≤ 100000 := by omega
      have hjd : decide ((j : Int) < 0) = false := by simp
      have hjc : j ≤ cap - k - 9 := by omega
      have hct : ∀ W : World, (Instr.slice 22 (.slice (cutA (cutA A cap k) (cap - k) 9) (n - k - 9) (cap - k - 9)) none (some (.int .i64 (j : Int))) none).run Tryd.prog W = .ok (.slice (cutA (cutA A cap k) (cap - k) 9) j (cap - k - 9)) W := fun W => run_upTo _ _ _ _ hjc
      have HST : Hid (∀ W, MkJ [60, 33, 91, 67, 68, 65, 84, 65, 91] [93, 93, 62] 120 w W → (convert 22 9 (.slice (cutA (cutA A cap k) (cap - k) 9) j (cap - k - 9))).run Tryd.prog W = .ok (.string ⟨((l.drop (k + 9)).take j).toArray⟩) W) := Lib.hid fun W hJ => ((hR W hJ).take hjr).str
      have CM : Hid (∀ W, MkJ [60, 33, 91, 67, 68, 65, 84, 65, 91] [93, 93, 62] 120 w W → Calls Tryd.prog 120 #[.string ⟨((l.drop (k + 9)).take j).toArray⟩] W fun e w' => e = .returned (.bool (mayCData ((l.drop (k + 9)).take j))) ∧ w' = W) := Lib.hid fun W hJ => (cdatas1_c _ W (HH.out.2.below hJ.1 HH.out.2.lt) (by rw [List.length_take]; omega)).mono fun e w' ⟨he, hw⟩ => ⟨he, hw.symm⟩
      have HE : Hid (markedOut [60, 33, 91, 67, 68, 65, 84, 65, 91] [93, 93, 62] mayCData l k = if mayCData ((l.drop (k + 9)).take j) = true then ((l.drop (k + 9)).take j, k + 9 + j + 3, 0) else ([], 0, 7)) := Lib.hid (by
        by_cases hmy : mayCData ((l.drop (k + 9)).take j) = true
        · rw [if_pos hmy]; exact marked_yes (a := 9) (b := 3) rfl rfl hp hi hmy
        · rw [if_neg hmy]
          refine marked_no rfl fun _ t ht => ?_
          have ht' : Lib.index (l.drop (k + 9)) [93, 93, 62] = (t : Int) := ht
          obtain rfl : j = t := by rw [hi] at ht'; omega
          exact bfalse hmy)
      rw [HE.out]
      rw [hi] at CI
      clear h hM hb0 f0 hJ0 hA hR hi HE HCI hln hsize HRL hkl hrc z1 z2 hp hj hoc hjr hjc hcap
      generalize cutA (cutA A cap k) (cap - k) 9 = R at *
      generalize n - k - 9 = rn at *
      generalize cap - k - 9 = rc at *
      generalize (l.drop (k + 9)).take j = T at *
      generalize mayCData T = my at *
      unfold cdatasV
      cases my
      all_goals
        simp only [if_true, Bool.false_eq_true, if_false]
        go_enter Tryd.func82, Tryd.ntmps82
        go_wp2
        go_region_with (first
          | (go_at_call 78; refine (CP.out _ (by first | exact Lib.hid ⟨0, rfl⟩ | exact Lib.hid ⟨1, rfl⟩ | exact Lib.hid ⟨2, rfl⟩ | exact Lib.hid ⟨3, rfl⟩)).mono ?_; rintro e w1 ⟨rfl, HJ1⟩))
        all_goals
          clear hcv z0
          have z1 := HJ1.out.2.2.2.1
          go_wp2_with fail
          refine (CI.out _ HJ1).mono ?_
          rintro e w2 ⟨rfl, HJ2⟩
          clear hcq z1
          have z2 := HJ2.out.2.2.2.2
          have hst : ∀ m, (convert 22 9 (.slice R j rc)).run Tryd.prog (w2.drewN m) = .ok (.string ⟨T.toArray⟩) (w2.drewN m) := fun m => HST.out _ (HJ2.out.drewN m)
          have CMm := Lib.hid (fun m => CM.out _ (HJ2.out.drewN m))
          go_wp2
          go_quiet ((go_at_call 120; exact Calls.quiet_of_same (CMm.out _)))
          have HJ3 := Lib.hid (HJ2.out.drewN nq)
          clear hst CMm z2
          generalize w2.drewN nq = w3 at *
          have z0 := HJ3.out.2.2.1
          have z1 := HJ3.out.2.2.2.1
          have hst : ∀ m, (convert 22 9 (.slice R j rc)).run Tryd.prog (w3.drewN m) = .ok (.string ⟨T.toArray⟩) (w3.drewN m) := fun m => HST.out _ (HJ3.out.drewN m)
          have hs1 : IntKind.i64.wrap ((k : Int) + 9) = (k : Int) + 9 := by rw [IntKind.wrap_i64]; omega
          have hs2 : IntKind.i64.wrap ((k : Int) + 9 + (j : Int)) = (k : Int) + 9 + (j : Int) := by rw [IntKind.wrap_i64]; omega
          have hs3 : IntKind.i64.wrap ((k : Int) + 9 + (j : Int) + 3) = (k : Int) + 9 + (j : Int) + 3 := by rw [IntKind.wrap_i64]; omega
          first
          | (go_wp2
             go_ret3
             exact ⟨rfl, HJ3.out.1⟩)
          | (go_wp2
             go_quiet (fail)
             have HJ4 := Lib.hid (HJ3.out.drewN nq)
             generalize w3.drewN nq = w4 at *
             go_wp2
             go_ret3
             exact ⟨rfl, HJ4.out.1⟩)
  · have hp' := bfalse hp
    have CP : Hid (∀ W : World, Hid (∃ m, W = (w.alloc (.cells #[.string ⟨#[60, 33, 91, 67, 68, 65, 84, 65, 91]⟩, .string ⟨#[93, 93, 62]⟩, .func (.func 120) #[] #[]] 110)).drewN m) → Calls Tryd.prog 78 #[.slice (cutA A cap k) (n - k) (cap - k), .slice (some ⟨w.heap.size + 1, 0, none⟩) 9 (grownCap W 9 0 5)] (Lib.bytesWorld W 5 ⟨#[60, 33, 91, 67, 68, 65, 84, 65, 91]⟩) fun e w' => e = .returned (.tuple #[.slice (cutA A cap k) (n - k) (cap - k), .bool false]) ∧ Hid (MkJ [60, 33, 91, 67, 68, 65, 84, 65, 91] [93, 93, 62] 120 w w')) := Lib.hid fun W HW => by
      obtain ⟨m, rfl⟩ := HW.out
      have hJ1 := (hJ0.drewN m).kept (Lib.bytesWorld_below _ 5 ⟨#[60, 33, 91, 67, 68, 65, 84, 65, 91]⟩)
      have hn := byt_new ((w.alloc (.cells #[.string ⟨#[60, 33, 91, 67, 68, 65, 84, 65, 91]⟩, .string ⟨#[93, 93, 62]⟩, .func (.func 120) #[] #[]] 110)).drewN m) [60, 33, 91, 67, 68, 65, 84, 65, 91] (by simp)
      rw [show ((w.alloc (.cells #[.string ⟨#[60, 33, 91, 67, 68, 65, 84, 65, 91]⟩, .string ⟨#[93, 93, 62]⟩, .func (.func 120) #[] #[]] 110)).drewN m).heap.size = w.heap.size + 1 from hsize] at hn
      exact (cutPrefix_no _ _ _ _ _ _ _ _ _ _ _ ((hA _ hJ1).drop hk) hn hp').mono fun e w' ⟨he, hw⟩ => ⟨he, Lib.hid (hw ▸ hJ1)⟩
    have CI := Lib.hid (HCI.out _ _ _ _ (fun W hJ => (hA W hJ).drop hk) (by omega))
    have HE : Hid (markedOut [60, 33, 91, 67, 68, 65, 84, 65, 91] [93, 93, 62] mayCData l k = ([], 0, 7)) := Lib.hid (marked_no rfl fun h' => absurd h' hp)
    rw [HE.out]
    clear h hM hb0 f0 hJ0 hA HE HCI hln hsize z1 z2 hp hp' hcap
    generalize Lib.index (l.drop k) [93, 93, 62] = ix at *
    unfold cdatasV
    go_enter Tryd.func82, Tryd.ntmps82
    go_wp2
    go_region_with (first
      | (go_at_call 78; refine (CP.out _ (by first | exact Lib.hid ⟨0, rfl⟩ | exact Lib.hid ⟨1, rfl⟩ | exact Lib.hid ⟨2, rfl⟩ | exact Lib.hid ⟨3, rfl⟩)).mono ?_; rintro e w1 ⟨rfl, HJ1⟩))
    all_goals
      clear hcv z0
      have z1 := HJ1.out.2.2.2.1
      go_wp2_with fail
      refine (CI.out _ HJ1).mono ?_
      rintro e w2 ⟨rfl, HJ2⟩
      clear hcq z1
      go_wp2
      go_quiet (fail)
      have HJ3 := Lib.hid (HJ2.out.drewN nq)
      generalize w2.drewN nq = w3 at *
      go_wp2
      go_ret3
      exact ⟨rfl, HJ3.out.1⟩
end Go.Proofs.YteighjiocgdgaaaDoor
