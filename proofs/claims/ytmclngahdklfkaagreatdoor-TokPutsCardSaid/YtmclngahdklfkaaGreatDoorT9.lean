/- Texts of ours, joined: Misc4, Misc5, Misc6, Misc7, MiscP2, Law08, Misc8, Law08b, PlainP, Whole, PutPi. -/
import Derived.Test.YtmclngahdklfkaaGreatDoorRows
import Derived.WalkKit
import Derived.ProofKit
import Derived.OpenShut
import Derived.ShutString
import Derived.ChangeOld
import Derived.Below
import Derived.BigQuiet
import Derived.Deep.QuietTactic
import Derived.Lib.Hide
import Derived.Deep.RegionHeld3
import Derived.Lib.SlBytesConst
import Derived.Laws.CopyOwn
import Derived.Laws.CopyRow
import Derived.Lib.Bytes
import Derived.Deep.LoopGhost
import Derived.Deep.DeepFit
import Derived.Deep.DeepMust
import Derived.WalkSpells
import Derived.WalkLawsBesides
import Derived.StillTailTactics
import Derived.Laws.EntriesVeiled
import Derived.Laws.Rows
import Derived.Deep.RegionWith
import Derived.Test.YtmclngahdklfkaaGreatDoorT1
import Derived.Test.YtmclngahdklfkaaGreatDoorT4
import Derived.Test.YtmclngahdklfkaaGreatDoorT7
import Derived.Test.YtmclngahdklfkaaGreatDoorT8
import Derived.Lib.Fold
import Derived.Test.YtmclngahdklfkaaGreatDoorT2
import Derived.Test.YtmclngahdklfkaaGreatDoorT5
import Derived.Test.YtmclngahdklfkaaGreatDoorT6
import Derived.Lib.IndexMore
import Derived.Lib.IndexLaws
/- misc: what stands between marks: marked texts. -/
namespace Go.Proofs.YtmclngahdklfkaaGreatDoor
open Go.ChangeShapes Go.WideShapes Go.ChangeAt Go.RowKit
set_option linter.unusedVariables false
def cdatasV : Value := .agg #[.string ⟨#[60, 33, 91, 67, 68, 65, 84, 65, 91]⟩, .string ⟨#[93, 93, 62]⟩, .func (.func 117) #[] #[]]
set_option maxRecDepth 100000 in
set_option maxHeartbeats 4000000 in
theorem cdatas_c (w : World) : Calls Tryz.prog 82 #[] w fun e w' => e = .returned cdatasV ∧ Below w.heap.size w w' := by
  have hF := Lib.hid (hp_new w (.cells #[.string ⟨#[60, 33, 91, 67, 68, 65, 84, 65, 91]⟩, .string ⟨#[93, 93, 62]⟩, .func (.func 117) #[] #[]] 111))
  have hb := Lib.hid (Below.alloc (Below.refl w.heap.size w) (Nat.le_refl _) (.cells #[.string ⟨#[60, 33, 91, 67, 68, 65, 84, 65, 91]⟩, .string ⟨#[93, 93, 62]⟩, .func (.func 117) #[] #[]] 111))
  go_enter Tryz.func82, Tryz.ntmps82
  go_wp2
  have hi : (Tryz.prog.info? 111).map (·.size) = some 3 := by kernel_rfl
  obtain ⟨d, hu⟩ := isStruct_of (P := Tryz.prog) (t := 111) (by kernel_rfl)
  (try simp only [Exit.inBlock, Exit.then])
  refine bodyPost_ret (results_cell_row rfl _ _ w.heap.size _ _ _ _ rfl hF.out hu rfl hi) rfl ⟨rfl, hb.out⟩
set_option maxRecDepth 100000 in
set_option maxHeartbeats 4000000 in
theorem cdatasRead_range (A : Option Addr) (n cap : Nat) (at_ : Int) (w : World) (ha : at_ < 0 ∨ (n : Int) < at_) :
    Calls Tryz.prog 94 #[cdatasV, .slice A n cap, .int .i64 at_] w fun e w' => e = .returned (outV ([], 0, 3)) ∧ Below w.heap.size w w' := by
  have hb := Lib.hid (Below.alloc (Below.refl w.heap.size w) (Nat.le_refl _) (.cells #[.string ⟨#[60, 33, 91, 67, 68, 65, 84, 65, 91]⟩, .string ⟨#[93, 93, 62]⟩, .func (.func 117) #[] #[]] 111))
  unfold cdatasV
  by_cases h0 : at_ < 0
  · have hd : decide (at_ < 0) = true := by simpa using h0
    clear ha
    go_enter Tryz.func94, Tryz.ntmps94
    go_wp2
    go_ret3
    exact ⟨rfl, hb.out⟩
  · have h1 : (n : Int) < at_ := by omega
    clear ha
    go_enter Tryz.func94, Tryz.ntmps94
    go_wp2
    go_ret3
    exact ⟨rfl, hb.out⟩
set_option maxRecDepth 100000 in
set_option maxHeartbeats 4000000 in
theorem cdatas1_c (s : List UInt8) (w : World) (hM : MaxL w) (hs : s.length ≤ 500000) :
    Calls Tryz.prog 117 #[.string ⟨s.toArray⟩] w fun e w' => e = .returned (.bool (mayCData s)) ∧ w = w' := by
  have C1 := Lib.hid (contains_c s [93, 93, 62] w hM (by omega))
  unfold mayCData
  generalize Lib.contains s [93, 93, 62] = r at *
  clear hM hs
  cases r
  all_goals
    go_enter Tryz.func117, Tryz.ntmps117
    go_wp2_with fail
    refine (C1.out).mono ?_
    rintro e wq ⟨rfl, rfl⟩
    go_wp2
    go_ret
    exact ⟨rfl, rfl⟩
set_option maxRecDepth 100000 in
set_option maxHeartbeats 4000000 in
theorem cdatasRead_c (A : Option Addr) (n cap : Nat) (l : List UInt8) (k : Nat) (w : World) (h : Byt w w.heap.size A n cap l) (hM : MaxL w) (hm : n ≤ 100000) (hk : k ≤ n) :
    Calls Tryz.prog 94 #[cdatasV, .slice A n cap, .int .i64 k] w fun e w' => e = .returned (outV (markedOut [60, 33, 91, 67, 68, 65, 84, 65, 91] [93, 93, 62] mayCData l k)) ∧ Below w.heap.size w w' := by
  have hk' : ¬ (n : Int) < (k : Int) := by omega
  have hk0 : (0 : Int) ≤ (k : Int) := by omega
  have hk1 : (k : Int) ≤ 100000 := by omega
  have f0 := hp_new w (.cells #[.string ⟨#[60, 33, 91, 67, 68, 65, 84, 65, 91]⟩, .string ⟨#[93, 93, 62]⟩, .func (.func 117) #[] #[]] 111)
  have z0 : (w.alloc (.cells #[.string ⟨#[60, 33, 91, 67, 68, 65, 84, 65, 91]⟩, .string ⟨#[93, 93, 62]⟩, .func (.func 117) #[] #[]] 111)).cell? ⟨w.heap.size, 0, none⟩ = some (.string ⟨#[60, 33, 91, 67, 68, 65, 84, 65, 91]⟩) := cell_of 0 f0
  have z1 : (w.alloc (.cells #[.string ⟨#[60, 33, 91, 67, 68, 65, 84, 65, 91]⟩, .string ⟨#[93, 93, 62]⟩, .func (.func 117) #[] #[]] 111)).cell? ⟨w.heap.size, 1, none⟩ = some (.string ⟨#[93, 93, 62]⟩) := cell_of 1 f0
  have z2 : (w.alloc (.cells #[.string ⟨#[60, 33, 91, 67, 68, 65, 84, 65, 91]⟩, .string ⟨#[93, 93, 62]⟩, .func (.func 117) #[] #[]] 111)).cell? ⟨w.heap.size, 2, none⟩ = some (.func (.func 117) #[] #[]) := cell_of 2 f0
  have hb0 : Below w.heap.size w (w.alloc (.cells #[.string ⟨#[60, 33, 91, 67, 68, 65, 84, 65, 91]⟩, .string ⟨#[93, 93, 62]⟩, .func (.func 117) #[] #[]] 111)) := Below.alloc (Below.refl _ _) (Nat.le_refl _) _
  have hJ0 : MkJ [60, 33, 91, 67, 68, 65, 84, 65, 91] [93, 93, 62] 117 w (w.alloc (.cells #[.string ⟨#[60, 33, 91, 67, 68, 65, 84, 65, 91]⟩, .string ⟨#[93, 93, 62]⟩, .func (.func 117) #[] #[]] 111)) := ⟨hb0, by simp, z0, z1, z2⟩
  have HH := Lib.hid (And.intro h hM)
  have hcap := h.le
  have hln := h.length
  have hrf : ∀ W : World, (Instr.slice 22 (.slice A n cap) (some (.int .i64 (k : Int))) none none).run Tryz.prog W = .ok (.slice (cutA A cap k) (n - k) (cap - k)) W := fun W => run_from A n cap k hk
  have hcv : ∀ W : World, (convert 9 22 (.string ⟨#[60, 33, 91, 67, 68, 65, 84, 65, 91]⟩)).run Tryz.prog W = .ok (.slice (some ⟨W.heap.size, 0, none⟩) 9 (grownCap W 9 0 5)) (Lib.bytesWorld W 5 ⟨#[60, 33, 91, 67, 68, 65, 84, 65, 91]⟩) := fun W => run_toBytes W [60, 33, 91, 67, 68, 65, 84, 65, 91]
  have hcq : ∀ W : World, (convert 9 22 (.string ⟨#[93, 93, 62]⟩)).run Tryz.prog W = .ok (.slice (some ⟨W.heap.size, 0, none⟩) 3 (grownCap W 3 0 5)) (Lib.bytesWorld W 5 ⟨#[93, 93, 62]⟩) := fun W => run_toBytes W [93, 93, 62]
  have hsize : (w.alloc (.cells #[.string ⟨#[60, 33, 91, 67, 68, 65, 84, 65, 91]⟩, .string ⟨#[93, 93, 62]⟩, .func (.func 117) #[] #[]] 111)).heap.size = w.heap.size + 1 := by simp
  have HCI : Hid (∀ (R : Option Addr) (rn rc : Nat) (rl : List UInt8), (∀ W, MkJ [60, 33, 91, 67, 68, 65, 84, 65, 91] [93, 93, 62] 117 w W → Byt W w.heap.size R rn rc rl) → rn ≤ 100000 → ∀ W : World, Hid (MkJ [60, 33, 91, 67, 68, 65, 84, 65, 91] [93, 93, 62] 117 w W) → Calls Tryz.prog 96 #[.slice R rn rc, .slice (some ⟨W.heap.size, 0, none⟩) 3 (grownCap W 3 0 5)] (Lib.bytesWorld W 5 ⟨#[93, 93, 62]⟩) fun e w' => e = .returned (.int .i64 (Lib.index rl [93, 93, 62])) ∧ Hid (MkJ [60, 33, 91, 67, 68, 65, 84, 65, 91] [93, 93, 62] 117 w w')) := Lib.hid fun R rn rc rl hR hrn W HJ => by
    have hJ1 := HJ.out.kept (Lib.bytesWorld_below W 5 ⟨#[93, 93, 62]⟩)
    exact (bindex_c R _ rn rc 3 _ rl [93, 93, 62] _ _ _ (hR _ hJ1) (byt_new W [93, 93, 62] (by simp)) (HH.out.2.below hJ1.1 HH.out.2.lt) (by omega) (by omega) (by omega)).mono fun e w' ⟨he, q, hq⟩ => ⟨he, Lib.hid (hq ▸ hJ1.drewN q)⟩
  have hA : ∀ W, MkJ [60, 33, 91, 67, 68, 65, 84, 65, 91] [93, 93, 62] 117 w W → Byt W w.heap.size A n cap l := fun W hJ => h.below hJ.1
  by_cases hp : [60, 33, 91, 67, 68, 65, 84, 65, 91].isPrefixOf (l.drop k) = true
  · have hkl : k + 9 ≤ n := by have := pre_len hp; simp at this; omega
    have CP : Hid (∀ W : World, Hid (∃ m, W = (w.alloc (.cells #[.string ⟨#[60, 33, 91, 67, 68, 65, 84, 65, 91]⟩, .string ⟨#[93, 93, 62]⟩, .func (.func 117) #[] #[]] 111)).drewN m) → Calls Tryz.prog 126 #[.slice (cutA A cap k) (n - k) (cap - k), .slice (some ⟨w.heap.size + 1, 0, none⟩) 9 (grownCap W 9 0 5)] (Lib.bytesWorld W 5 ⟨#[60, 33, 91, 67, 68, 65, 84, 65, 91]⟩) fun e w' => e = .returned (.tuple #[.slice (cutA (cutA A cap k) (cap - k) 9) (n - k - 9) (cap - k - 9), .bool true]) ∧ Hid (MkJ [60, 33, 91, 67, 68, 65, 84, 65, 91] [93, 93, 62] 117 w w')) := Lib.hid fun W HW => by
      obtain ⟨m, rfl⟩ := HW.out
      have hJ1 := (hJ0.drewN m).kept (Lib.bytesWorld_below _ 5 ⟨#[60, 33, 91, 67, 68, 65, 84, 65, 91]⟩)
      have hn := byt_new ((w.alloc (.cells #[.string ⟨#[60, 33, 91, 67, 68, 65, 84, 65, 91]⟩, .string ⟨#[93, 93, 62]⟩, .func (.func 117) #[] #[]] 111)).drewN m) [60, 33, 91, 67, 68, 65, 84, 65, 91] (by simp)
      rw [show ((w.alloc (.cells #[.string ⟨#[60, 33, 91, 67, 68, 65, 84, 65, 91]⟩, .string ⟨#[93, 93, 62]⟩, .func (.func 117) #[] #[]] 111)).drewN m).heap.size = w.heap.size + 1 from hsize] at hn
      exact (cutPrefix_yes _ _ _ _ _ _ _ _ _ _ _ ((hA _ hJ1).drop hk) hn (by simp) hp).mono fun e w' ⟨he, hw⟩ => ⟨he, Lib.hid (hw ▸ hJ1)⟩
    have hR : ∀ W, MkJ [60, 33, 91, 67, 68, 65, 84, 65, 91] [93, 93, 62] 117 w W → Byt W w.heap.size (cutA (cutA A cap k) (cap - k) 9) (n - k - 9) (cap - k - 9) (l.drop (k + 9)) := fun W hJ => by
      have := ((hA W hJ).drop hk).drop (k := 9) (by omega)
      rwa [List.drop_drop] at this
    have CI := Lib.hid (HCI.out _ _ _ _ hR (by omega))
    have HR := Lib.hid hR
    have hix := Lib.index_spec (l.drop (k + 9)) [93, 93, 62]
    have hrc : n - k - 9 ≤ cap - k - 9 := by omega
    have HRL : Hid ((l.drop (k + 9)).length = n - k - 9) := Lib.hid (by rw [List.length_drop]; omega)
    rcases hix with ⟨hi, _⟩ | ⟨j, hi, hj, hoc, _⟩
    · have HE : Hid (markedOut [60, 33, 91, 67, 68, 65, 84, 65, 91] [93, 93, 62] mayCData l k = ([], 0, 7)) := Lib.hid (marked_no rfl fun _ j hj => by
        have hj' : Lib.index (l.drop (k + 9)) [93, 93, 62] = (j : Int) := hj
        rw [hi] at hj'; omega)
      rw [HE.out]
      rw [hi] at CI
      clear h hM hb0 f0 hJ0 hA hR hi HE HCI hln hsize HRL hkl hrc z1 z2 hp
      generalize cutA (cutA A cap k) (cap - k) 9 = R at *
      generalize n - k - 9 = rn at *
      generalize cap - k - 9 = rc at *
      unfold cdatasV
      go_enter Tryz.func94, Tryz.ntmps94
      go_wp2
      go_region_with (first
        | (go_at_call 126; refine (CP.out _ (by first | exact Lib.hid ⟨0, rfl⟩ | exact Lib.hid ⟨1, rfl⟩ | exact Lib.hid ⟨2, rfl⟩ | exact Lib.hid ⟨3, rfl⟩)).mono ?_; rintro e w1 ⟨rfl, HJ1⟩))
      all_goals
        clear hcv z0
        have z1 := HJ1.out.2.2.2.1
        go_wp2_with fail
        refine (CI.out _ HJ1).mono ?_
        rintro e w2 ⟨rfl, HJ2⟩
        clear hcq z1
        go_wp2
        go_quiet (fail)
        have HJ3 := Lib.hid (HJ2.out.drewN nq)
        generalize w2.drewN nq = w3 at *
        go_wp2
        go_ret3
        exact ⟨rfl, HJ3.out.1⟩
    · have hjr : j ≤ n - k - 9 := by have := HRL.out; omega
      have hj0 : (0 : Int) ≤ (j : Int) := by omega
      have hj1 : (j : Int) ≤ 100000 := by omega
      have hjd : decide ((j : Int) < 0) = false := by simp
      have hjc : j ≤ cap - k - 9 := by omega
      have hct : ∀ W : World, (Instr.slice 22 (.slice (cutA (cutA A cap k) (cap - k) 9) (n - k - 9) (cap - k - 9)) none (some (.int .i64 (j : Int))) none).run Tryz.prog W = .ok (.slice (cutA (cutA A cap k) (cap - k) 9) j (cap - k - 9)) W := fun W => run_upTo _ _ _ _ hjc
      have HST : Hid (∀ W, MkJ [60, 33, 91, 67, 68, 65, 84, 65, 91] [93, 93, 62] 117 w W → (convert 22 9 (.slice (cutA (cutA A cap k) (cap - k) 9) j (cap - k - 9))).run Tryz.prog W = .ok (.string ⟨((l.drop (k + 9)).take j).toArray⟩) W) := Lib.hid fun W hJ => ((hR W hJ).take hjr).str
      have CM : Hid (∀ W, MkJ [60, 33, 91, 67, 68, 65, 84, 65, 91] [93, 93, 62] 117 w W → Calls Tryz.prog 117 #[.string ⟨((l.drop (k + 9)).take j).toArray⟩] W fun e w' => e = .returned (.bool (mayCData ((l.drop (k + 9)).take j))) ∧ w' = W) := Lib.hid fun W hJ => (cdatas1_c _ W (HH.out.2.below hJ.1 HH.out.2.lt) (by rw [List.length_take]; omega)).mono fun e w' ⟨he, hw⟩ => ⟨he, hw.symm⟩
      have HE : Hid (markedOut [60, 33, 91, 67, 68, 65, 84, 65, 91] [93, 93, 62] mayCData l k = if mayCData ((l.drop (k + 9)).take j) = true then ((l.drop (k + 9)).take j, k + 9 + j + 3, 0) else ([], 0, 7)) := Lib.hid (by
        by_cases hmy : mayCData ((l.drop (k + 9)).take j) = true
        · rw [if_pos hmy]; exact marked_yes (a := 9) (b := 3) rfl rfl hp hi hmy
        · rw [if_neg hmy]
          refine marked_no rfl fun _ t ht => ?_
          have ht' : Lib.index (l.drop (k + 9)) [93, 93, 62] = (t : Int) := ht
          obtain rfl : j = t := by rw [hi] at ht'; omega
          exact bfalse hmy)
      rw [HE.out]
      rw [hi] at CI
      clear h hM hb0 f0 hJ0 hA hR hi HE HCI hln hsize HRL hkl hrc z1 z2 hp hj hoc hjr hjc hcap
      generalize cutA (cutA A cap k) (cap - k) 9 = R at *
      generalize n - k - 9 = rn at *
      generalize cap - k - 9 = rc at *
      generalize (l.drop (k + 9)).take j = T at *
      generalize mayCData T = my at *
      unfold cdatasV
      cases my
      all_goals
        simp only [if_true, Bool.false_eq_true, if_false]
        go_enter Tryz.func94, Tryz.ntmps94
        go_wp2
        go_region_with (first
          | (go_at_call 126; refine (CP.out _ (by first | exact Lib.hid ⟨0, rfl⟩ | exact Lib.hid ⟨1, rfl⟩ | exact Lib.hid ⟨2, rfl⟩ | exact Lib.hid ⟨3, rfl⟩)).mono ?_; rintro e w1 ⟨rfl, HJ1⟩))
        all_goals
          clear hcv z0
          have z1 := HJ1.out.2.2.2.1
          go_wp2_with fail
          refine (CI.out _ HJ1).mono ?_
          rintro e w2 ⟨rfl, HJ2⟩
          clear hcq z1
          have z2 := HJ2.out.2.2.2.2
          have hst : ∀ m, (convert 22 9 (.slice R j rc)).run Tryz.prog (w2.drewN m) = .ok (.string ⟨T.toArray⟩) (w2.drewN m) := fun m => HST.out _ (HJ2.out.drewN m)
          have CMm := Lib.hid (fun m => CM.out _ (HJ2.out.drewN m))
          go_wp2
          go_quiet ((go_at_call 117; exact Calls.quiet_of_same (CMm.out _)))
          have HJ3 := Lib.hid (HJ2.out.drewN nq)
          clear hst CMm z2
          generalize w2.drewN nq = w3 at *
          have z0 := HJ3.out.2.2.1
          have z1 := HJ3.out.2.2.2.1
          have hst : ∀ m, (convert 22 9 (.slice R j rc)).run Tryz.prog (w3.drewN m) = .ok (.string ⟨T.toArray⟩) (w3.drewN m) := fun m => HST.out _ (HJ3.out.drewN m)
          have hs1 : IntKind.i64.wrap ((k : Int) + 9) = (k : Int) + 9 := by rw [IntKind.wrap_i64]; omega
          have hs2 : IntKind.i64.wrap ((k : Int) + 9 + (j : Int)) = (k : Int) + 9 + (j : Int) := by rw [IntKind.wrap_i64]; omega
          have hs3 : IntKind.i64.wrap ((k : Int) + 9 + (j : Int) + 3) = (k : Int) + 9 + (j : Int) + 3 := by rw [IntKind.wrap_i64]; omega
          first
          | (go_wp2
             go_ret3
             exact ⟨rfl, HJ3.out.1⟩)
          | (go_wp2
             go_quiet (fail)
             have HJ4 := Lib.hid (HJ3.out.drewN nq)
             generalize w3.drewN nq = w4 at *
             go_wp2
             go_ret3
             exact ⟨rfl, HJ4.out.1⟩)
  · have hp' := bfalse hp
    have CP : Hid (∀ W : World, Hid (∃ m, W = (w.alloc (.cells #[.string ⟨#[60, 33, 91, 67, 68, 65, 84, 65, 91]⟩, .string ⟨#[93, 93, 62]⟩, .func (.func 117) #[] #[]] 111)).drewN m) → Calls Tryz.prog 126 #[.slice (cutA A cap k) (n - k) (cap - k), .slice (some ⟨w.heap.size + 1, 0, none⟩) 9 (grownCap W 9 0 5)] (Lib.bytesWorld W 5 ⟨#[60, 33, 91, 67, 68, 65, 84, 65, 91]⟩) fun e w' => e = .returned (.tuple #[.slice (cutA A cap k) (n - k) (cap - k), .bool false]) ∧ Hid (MkJ [60, 33, 91, 67, 68, 65, 84, 65, 91] [93, 93, 62] 117 w w')) := Lib.hid fun W HW => by
      obtain ⟨m, rfl⟩ := HW.out
      have hJ1 := (hJ0.drewN m).kept (Lib.bytesWorld_below _ 5 ⟨#[60, 33, 91, 67, 68, 65, 84, 65, 91]⟩)
      have hn := byt_new ((w.alloc (.cells #[.string ⟨#[60, 33, 91, 67, 68, 65, 84, 65, 91]⟩, .string ⟨#[93, 93, 62]⟩, .func (.func 117) #[] #[]] 111)).drewN m) [60, 33, 91, 67, 68, 65, 84, 65, 91] (by simp)
      rw [show ((w.alloc (.cells #[.string ⟨#[60, 33, 91, 67, 68, 65, 84, 65, 91]⟩, .string ⟨#[93, 93, 62]⟩, .func (.func 117) #[] #[]] 111)).drewN m).heap.size = w.heap.size + 1 from hsize] at hn
      exact (cutPrefix_no _ _ _ _ _ _ _ _ _ _ _ ((hA _ hJ1).drop hk) hn hp').mono fun e w' ⟨he, hw⟩ => ⟨he, Lib.hid (hw ▸ hJ1)⟩
    have CI := Lib.hid (HCI.out _ _ _ _ (fun W hJ => (hA W hJ).drop hk) (by omega))
    have HE : Hid (markedOut [60, 33, 91, 67, 68, 65, 84, 65, 91] [93, 93, 62] mayCData l k = ([], 0, 7)) := Lib.hid (marked_no rfl fun h' => absurd h' hp)
    rw [HE.out]
    clear h hM hb0 f0 hJ0 hA HE HCI hln hsize z1 z2 hp hp' hcap
    generalize Lib.index (l.drop k) [93, 93, 62] = ix at *
    unfold cdatasV
    go_enter Tryz.func94, Tryz.ntmps94
    go_wp2
    go_region_with (first
      | (go_at_call 126; refine (CP.out _ (by first | exact Lib.hid ⟨0, rfl⟩ | exact Lib.hid ⟨1, rfl⟩ | exact Lib.hid ⟨2, rfl⟩ | exact Lib.hid ⟨3, rfl⟩)).mono ?_; rintro e w1 ⟨rfl, HJ1⟩))
    all_goals
      clear hcv z0
      have z1 := HJ1.out.2.2.2.1
      go_wp2_with fail
      refine (CI.out _ HJ1).mono ?_
      rintro e w2 ⟨rfl, HJ2⟩
      clear hcq z1
      go_wp2
      go_quiet (fail)
      have HJ3 := Lib.hid (HJ2.out.drewN nq)
      generalize w2.drewN nq = w3 at *
      go_wp2
      go_ret3
      exact ⟨rfl, HJ3.out.1⟩
end Go.Proofs.YtmclngahdklfkaaGreatDoor
/- misc: comments and marked texts, read and written. -/
namespace Go.Proofs.YtmclngahdklfkaaGreatDoor
open Go.ChangeShapes Go.WideShapes Go.ChangeAt Go.RowKit
set_option linter.unusedVariables false
def anyAt (f : List UInt8 → Nat → List UInt8 × Nat × Nat) (l : List UInt8) (at_ : Int) : List UInt8 × Nat × Nat := if at_ < 0 ∨ (l.length : Int) < at_ then ([], 0, 3) else f l at_.toNat
theorem anyAt_in (f : List UInt8 → Nat → List UInt8 × Nat × Nat) (l : List UInt8) (k : Nat) (h : k ≤ l.length) : anyAt f l k = f l k := by
  unfold anyAt
  rw [if_neg (by omega), Int.toNat_natCast]
set_option maxRecDepth 100000 in
set_option maxHeartbeats 4000000 in
theorem miscComment_c (A : Option Addr) (n cap : Nat) (l : List UInt8) (at_ : Int) (w : World) (h : Byt w w.heap.size A n cap l) (hM : MaxL w) (hm : n ≤ 100000) :
    Calls Tryz.prog 61 #[.slice A n cap, .int .i64 at_] w fun e w' => e = .returned (outV (anyAt commentOut l at_)) ∧ Below w.heap.size w w' := by
  have C1 := Lib.hid (comments_c w)
  have C2 : Hid (∀ W, Below w.heap.size w W → Calls Tryz.prog 94 #[commentsV, .slice A n cap, .int .i64 at_] W fun e w' => e = .returned (outV (anyAt commentOut l at_)) ∧ Below W.heap.size W w') := Lib.hid fun W hb => by
    by_cases ha : at_ < 0 ∨ (n : Int) < at_
    · have : anyAt commentOut l at_ = ([], 0, 3) := by unfold anyAt; rw [h.length, if_pos ha]
      rw [this]
      exact commentsRead_range A n cap at_ W ha
    · obtain ⟨k, rfl⟩ : ∃ k : Nat, at_ = (k : Int) := ⟨at_.toNat, by omega⟩
      rw [anyAt_in _ _ _ (by rw [h.length]; omega), ← marked_comment l k (by rw [h.length]; omega)]
      exact commentsRead_c A n cap l k W ((h.below hb).more hb.size) (hM.below hb hM.lt) hm (by omega)
  clear h hM hm
  generalize anyAt commentOut l at_ = r at *
  unfold outV at *
  go_enter Tryz.func61, Tryz.ntmps61
  go_wp2_with fail
  refine (C1.out).mono ?_
  rintro e w1 ⟨rfl, hb⟩
  have B1 := Lib.hid hb
  clear hb
  go_wp2_with fail
  refine (C2.out _ B1.out).mono ?_
  rintro e w2 ⟨rfl, hb⟩
  have B2 := Lib.hid (B1.out.trans (hb.mono B1.out.size))
  clear hb
  go_wp2
  go_ret3
  exact ⟨rfl, B2.out⟩
def putCommentOut (s : List UInt8) : List UInt8 × Nat := if mayComment s = true then ([60, 33, 45, 45] ++ s ++ [45, 45, 62], 0) else ([], 7)
set_option maxRecDepth 100000 in
set_option maxHeartbeats 4000000 in
theorem commentsWrite_c (s : List UInt8) (w : World) (hM : MaxL w) (hs : s.length ≤ 100000) :
    Calls Tryz.prog 83 #[commentsV, .string ⟨s.toArray⟩] w fun e w' => e = .returned (.tuple #[.string ⟨(putCommentOut s).1.toArray⟩, .int .i64 ((putCommentOut s).2 : Int)]) ∧ Below w.heap.size w w' := by
  have f0 := hp_new w (.cells #[.string ⟨#[60, 33, 45, 45]⟩, .string ⟨#[45, 45, 62]⟩, .func (.func 118) #[] #[]] 111)
  have z0 : (w.alloc (.cells #[.string ⟨#[60, 33, 45, 45]⟩, .string ⟨#[45, 45, 62]⟩, .func (.func 118) #[] #[]] 111)).cell? ⟨w.heap.size, 0, none⟩ = some (.string ⟨#[60, 33, 45, 45]⟩) := cell_of 0 f0
  have z1 : (w.alloc (.cells #[.string ⟨#[60, 33, 45, 45]⟩, .string ⟨#[45, 45, 62]⟩, .func (.func 118) #[] #[]] 111)).cell? ⟨w.heap.size, 1, none⟩ = some (.string ⟨#[45, 45, 62]⟩) := cell_of 1 f0
  have z2 : (w.alloc (.cells #[.string ⟨#[60, 33, 45, 45]⟩, .string ⟨#[45, 45, 62]⟩, .func (.func 118) #[] #[]] 111)).cell? ⟨w.heap.size, 2, none⟩ = some (.func (.func 118) #[] #[]) := cell_of 2 f0
  have hb0 := Lib.hid (Below.alloc (Below.refl w.heap.size w) (Nat.le_refl _) (.cells #[.string ⟨#[60, 33, 45, 45]⟩, .string ⟨#[45, 45, 62]⟩, .func (.func 118) #[] #[]] 111))
  have C1 := Lib.hid (comments1_c s (w.alloc (.cells #[.string ⟨#[60, 33, 45, 45]⟩, .string ⟨#[45, 45, 62]⟩, .func (.func 118) #[] #[]] 111)) (hM.below hb0.out hM.lt) (by omega))
  have hct : ∀ W, (Op.stringOp .add ⟨#[60, 33, 45, 45]⟩ ⟨s.toArray⟩).run Tryz.prog W = .ok (.string ⟨([60, 33, 45, 45] ++ s).toArray⟩) W := fun W => run_sop (w := W) [60, 33, 45, 45] s (by simp; omega)
  have hct2 : ∀ W, (Op.stringOp .add ⟨([60, 33, 45, 45] ++ s).toArray⟩ ⟨#[45, 45, 62]⟩).run Tryz.prog W = .ok (.string ⟨([60, 33, 45, 45] ++ s ++ [45, 45, 62]).toArray⟩) W := fun W => run_sop (w := W) ([60, 33, 45, 45] ++ s) [45, 45, 62] (by simp; omega)
  clear f0 hM hs
  unfold putCommentOut commentsV
  generalize mayComment s = my at *
  cases my
  · simp only [Bool.false_eq_true, if_false]
    clear hct hct2
    go_enter Tryz.func83, Tryz.ntmps83
    go_wp2_with fail
    refine (C1.out).mono ?_
    rintro e wq ⟨rfl, rfl⟩
    go_wp2
    go_ret2
    exact ⟨rfl, hb0.out⟩
  · simp only [if_true]
    generalize [60, 33, 45, 45] ++ s ++ [45, 45, 62] = s3 at *
    generalize [60, 33, 45, 45] ++ s = s2 at *
    go_enter Tryz.func83, Tryz.ntmps83
    go_wp2_with fail
    refine (C1.out).mono ?_
    rintro e wq ⟨rfl, rfl⟩
    go_wp2
    go_ret2
    exact ⟨rfl, hb0.out⟩
set_option maxRecDepth 100000 in
set_option maxHeartbeats 4000000 in
theorem miscPutComment_c (s : List UInt8) (w : World) (hM : MaxL w) (hs : s.length ≤ 100000) :
    Calls Tryz.prog 49 #[.string ⟨s.toArray⟩] w fun e w' => e = .returned (.tuple #[.string ⟨(putCommentOut s).1.toArray⟩, .int .i64 ((putCommentOut s).2 : Int)]) ∧ Below w.heap.size w w' := by
  have C1 := Lib.hid (comments_c w)
  have C2 : Hid (∀ W, Below w.heap.size w W → Calls Tryz.prog 83 #[commentsV, .string ⟨s.toArray⟩] W fun e w' => e = .returned (.tuple #[.string ⟨(putCommentOut s).1.toArray⟩, .int .i64 ((putCommentOut s).2 : Int)]) ∧ Below W.heap.size W w') := Lib.hid fun W hb => commentsWrite_c s W (hM.below hb hM.lt) hs
  clear hM hs
  generalize putCommentOut s = r at *
  go_enter Tryz.func49, Tryz.ntmps49
  go_wp2_with fail
  refine (C1.out).mono ?_
  rintro e w1 ⟨rfl, hb⟩
  have B1 := Lib.hid hb
  clear hb
  go_wp2_with fail
  refine (C2.out _ B1.out).mono ?_
  rintro e w2 ⟨rfl, hb⟩
  have B2 := Lib.hid (B1.out.trans (hb.mono B1.out.size))
  clear hb
  go_wp2
  go_ret2
  exact ⟨rfl, B2.out⟩
set_option maxRecDepth 100000 in
set_option maxHeartbeats 4000000 in
theorem miscCData_c (A : Option Addr) (n cap : Nat) (l : List UInt8) (at_ : Int) (w : World) (h : Byt w w.heap.size A n cap l) (hM : MaxL w) (hm : n ≤ 100000) :
    Calls Tryz.prog 62 #[.slice A n cap, .int .i64 at_] w fun e w' => e = .returned (outV (anyAt cdataOut l at_)) ∧ Below w.heap.size w w' := by
  have C1 := Lib.hid (cdatas_c w)
  have C2 : Hid (∀ W, Below w.heap.size w W → Calls Tryz.prog 94 #[cdatasV, .slice A n cap, .int .i64 at_] W fun e w' => e = .returned (outV (anyAt cdataOut l at_)) ∧ Below W.heap.size W w') := Lib.hid fun W hb => by
    by_cases ha : at_ < 0 ∨ (n : Int) < at_
    · have : anyAt cdataOut l at_ = ([], 0, 3) := by unfold anyAt; rw [h.length, if_pos ha]
      rw [this]
      exact cdatasRead_range A n cap at_ W ha
    · obtain ⟨k, rfl⟩ : ∃ k : Nat, at_ = (k : Int) := ⟨at_.toNat, by omega⟩
      rw [anyAt_in _ _ _ (by rw [h.length]; omega), ← marked_cdata l k (by rw [h.length]; omega)]
      exact cdatasRead_c A n cap l k W ((h.below hb).more hb.size) (hM.below hb hM.lt) hm (by omega)
  clear h hM hm
  generalize anyAt cdataOut l at_ = r at *
  unfold outV at *
  go_enter Tryz.func62, Tryz.ntmps62
  go_wp2_with fail
  refine (C1.out).mono ?_
  rintro e w1 ⟨rfl, hb⟩
  have B1 := Lib.hid hb
  clear hb
  go_wp2_with fail
  refine (C2.out _ B1.out).mono ?_
  rintro e w2 ⟨rfl, hb⟩
  have B2 := Lib.hid (B1.out.trans (hb.mono B1.out.size))
  clear hb
  go_wp2
  go_ret3
  exact ⟨rfl, B2.out⟩
def putCDataOut (s : List UInt8) : List UInt8 × Nat := if mayCData s = true then ([60, 33, 91, 67, 68, 65, 84, 65, 91] ++ s ++ [93, 93, 62], 0) else ([], 7)
set_option maxRecDepth 100000 in
set_option maxHeartbeats 4000000 in
theorem cdatasWrite_c (s : List UInt8) (w : World) (hM : MaxL w) (hs : s.length ≤ 100000) :
    Calls Tryz.prog 83 #[cdatasV, .string ⟨s.toArray⟩] w fun e w' => e = .returned (.tuple #[.string ⟨(putCDataOut s).1.toArray⟩, .int .i64 ((putCDataOut s).2 : Int)]) ∧ Below w.heap.size w w' := by
  have f0 := hp_new w (.cells #[.string ⟨#[60, 33, 91, 67, 68, 65, 84, 65, 91]⟩, .string ⟨#[93, 93, 62]⟩, .func (.func 117) #[] #[]] 111)
  have z0 : (w.alloc (.cells #[.string ⟨#[60, 33, 91, 67, 68, 65, 84, 65, 91]⟩, .string ⟨#[93, 93, 62]⟩, .func (.func 117) #[] #[]] 111)).cell? ⟨w.heap.size, 0, none⟩ = some (.string ⟨#[60, 33, 91, 67, 68, 65, 84, 65, 91]⟩) := cell_of 0 f0
  have z1 : (w.alloc (.cells #[.string ⟨#[60, 33, 91, 67, 68, 65, 84, 65, 91]⟩, .string ⟨#[93, 93, 62]⟩, .func (.func 117) #[] #[]] 111)).cell? ⟨w.heap.size, 1, none⟩ = some (.string ⟨#[93, 93, 62]⟩) := cell_of 1 f0
  have z2 : (w.alloc (.cells #[.string ⟨#[60, 33, 91, 67, 68, 65, 84, 65, 91]⟩, .string ⟨#[93, 93, 62]⟩, .func (.func 117) #[] #[]] 111)).cell? ⟨w.heap.size, 2, none⟩ = some (.func (.func 117) #[] #[]) := cell_of 2 f0
  have hb0 := Lib.hid (Below.alloc (Below.refl w.heap.size w) (Nat.le_refl _) (.cells #[.string ⟨#[60, 33, 91, 67, 68, 65, 84, 65, 91]⟩, .string ⟨#[93, 93, 62]⟩, .func (.func 117) #[] #[]] 111))
  have C1 := Lib.hid (cdatas1_c s (w.alloc (.cells #[.string ⟨#[60, 33, 91, 67, 68, 65, 84, 65, 91]⟩, .string ⟨#[93, 93, 62]⟩, .func (.func 117) #[] #[]] 111)) (hM.below hb0.out hM.lt) (by omega))
  have hct : ∀ W, (Op.stringOp .add ⟨#[60, 33, 91, 67, 68, 65, 84, 65, 91]⟩ ⟨s.toArray⟩).run Tryz.prog W = .ok (.string ⟨([60, 33, 91, 67, 68, 65, 84, 65, 91] ++ s).toArray⟩) W := fun W => run_sop (w := W) [60, 33, 91, 67, 68, 65, 84, 65, 91] s (by simp; omega)
  have hct2 : ∀ W, (Op.stringOp .add ⟨([60, 33, 91, 67, 68, 65, 84, 65, 91] ++ s).toArray⟩ ⟨#[93, 93, 62]⟩).run Tryz.prog W = .ok (.string ⟨([60, 33, 91, 67, 68, 65, 84, 65, 91] ++ s ++ [93, 93, 62]).toArray⟩) W := fun W => run_sop (w := W) ([60, 33, 91, 67, 68, 65, 84, 65, 91] ++ s) [93, 93, 62] (by simp; omega)
  clear f0 hM hs
  unfold putCDataOut cdatasV
  generalize mayCData s = my at *
  cases my
  · simp only [Bool.false_eq_true, if_false]
    clear hct hct2
    go_enter Tryz.func83, Tryz.ntmps83
    go_wp2_with fail
    refine (C1.out).mono ?_
    rintro e wq ⟨rfl, rfl⟩
    go_wp2
    go_ret2
    exact ⟨rfl, hb0.out⟩
  · simp only [if_true]
    generalize [60, 33, 91, 67, 68, 65, 84, 65, 91] ++ s ++ [93, 93, 62] = s3 at *
    generalize [60, 33, 91, 67, 68, 65, 84, 65, 91] ++ s = s2 at *
    go_enter Tryz.func83, Tryz.ntmps83
    go_wp2_with fail
    refine (C1.out).mono ?_
    rintro e wq ⟨rfl, rfl⟩
    go_wp2
    go_ret2
    exact ⟨rfl, hb0.out⟩
set_option maxRecDepth 100000 in
set_option maxHeartbeats 4000000 in
theorem miscPutCData_c (s : List UInt8) (w : World) (hM : MaxL w) (hs : s.length ≤ 100000) :
    Calls Tryz.prog 48 #[.string ⟨s.toArray⟩] w fun e w' => e = .returned (.tuple #[.string ⟨(putCDataOut s).1.toArray⟩, .int .i64 ((putCDataOut s).2 : Int)]) ∧ Below w.heap.size w w' := by
  have C1 := Lib.hid (cdatas_c w)
  have C2 : Hid (∀ W, Below w.heap.size w W → Calls Tryz.prog 83 #[cdatasV, .string ⟨s.toArray⟩] W fun e w' => e = .returned (.tuple #[.string ⟨(putCDataOut s).1.toArray⟩, .int .i64 ((putCDataOut s).2 : Int)]) ∧ Below W.heap.size W w') := Lib.hid fun W hb => cdatasWrite_c s W (hM.below hb hM.lt) hs
  clear hM hs
  generalize putCDataOut s = r at *
  go_enter Tryz.func48, Tryz.ntmps48
  go_wp2_with fail
  refine (C1.out).mono ?_
  rintro e w1 ⟨rfl, hb⟩
  have B1 := Lib.hid hb
  clear hb
  go_wp2_with fail
  refine (C2.out _ B1.out).mono ?_
  rintro e w2 ⟨rfl, hb⟩
  have B2 := Lib.hid (B1.out.trans (hb.mono B1.out.size))
  clear hb
  go_wp2
  go_ret2
  exact ⟨rfl, B2.out⟩
end Go.Proofs.YtmclngahdklfkaaGreatDoor
/- narthexref08.Pi. -/
namespace Go.Proofs.YtmclngahdklfkaaGreatDoor
open Go.ChangeShapes Go.WideShapes Go.ChangeAt Go.RowKit
set_option linter.unusedVariables false
theorem results_tmp4 {fn : Func} {t u v x : Tmp} (h : fn.results = #[.tmp t, .tmp u, .tmp v, .tmp x]) (tmps : Array Value) (P : Program) (w : World) :
    (results fn tmps).run P w = .ok (.tuple #[tmps.getD t undef, tmps.getD u undef, tmps.getD v undef, tmps.getD x undef]) w := by
  simp [results, h]
/-- Is it xml, in letters of whatever size? -/
def resB (s : List UInt8) : Bool := Lib.equalFold s [120, 109, 108]
def out4V (o : List UInt8 × List UInt8 × Nat × Nat) : Value := .tuple #[.string ⟨o.1.toArray⟩, .string ⟨o.2.1.toArray⟩, .int .i64 (o.2.2.1 : Int), .int .i64 (o.2.2.2 : Int)]
/-- How a processing instruction reads, behind its target's name. -/
def piRest (l : List UInt8) (p : List UInt8 × Nat × Nat) : List UInt8 × List UInt8 × Nat × Nat :=
  if p.2.2 ≠ 0 then ([], [], 0, p.2.2) else if resB p.1 = true then ([], [], 0, 7) else
  if findI l (blankTo l p.2.1) [63, 62] < 0 ∨ (blankTo l p.2.1 = p.2.1 ∧ findI l (blankTo l p.2.1) [63, 62] ≠ p.2.1) then ([], [], 0, 7) else
  (p.1, (l.drop (blankTo l p.2.1)).take ((findI l (blankTo l p.2.1) [63, 62]).toNat - blankTo l p.2.1), (findI l (blankTo l p.2.1) [63, 62]).toNat + 2, 0)
def piOut (l : List UInt8) (k : Nat) : List UInt8 × List UInt8 × Nat × Nat :=
  if [60, 63].isPrefixOf (l.drop k) = false then ([], [], 0, 7) else piRest l (plainOut l (k + 2))
def piAt (l : List UInt8) (at_ : Int) : List UInt8 × List UInt8 × Nat × Nat := if at_ < 0 ∨ (l.length : Int) < at_ then ([], [], 0, 3) else piOut l at_.toNat
theorem piRest_err (l : List UInt8) (s : List UInt8) (t e : Nat) (h : e ≠ 0) : piRest l (s, t, e) = ([], [], 0, e) := by unfold piRest; rw [if_pos h]
theorem piRest_res (l : List UInt8) (s : List UInt8) (t : Nat) (h : resB s = true) : piRest l (s, t, 0) = ([], [], 0, 7) := by unfold piRest; rw [if_neg (by simp), if_pos h]
theorem piRest_no (l : List UInt8) (s : List UInt8) (t f : Nat) (h : resB s = false) (hf : blankTo l t = f) (hn : findI l f [63, 62] < 0) : piRest l (s, t, 0) = ([], [], 0, 7) := by
  subst hf
  unfold piRest
  rw [if_neg (by simp), if_neg (by rw [h]; simp), if_pos (.inl hn)]
theorem piRest_tight (l : List UInt8) (s : List UInt8) (t i : Nat) (h : resB s = false) (hf : blankTo l t = t) (hn : findI l t [63, 62] = i) (hi : i ≠ t) : piRest l (s, t, 0) = ([], [], 0, 7) := by
  unfold piRest
  simp only [hf]
  rw [if_neg (by simp), if_neg (by rw [h]; simp), if_pos (.inr ⟨trivial, by omega⟩)]
theorem piRest_yes (l : List UInt8) (s : List UInt8) (t f i : Nat) (h : resB s = false) (hf : blankTo l t = f) (hn : findI l f [63, 62] = i) (hi : f = t → i = t) : piRest l (s, t, 0) = (s, (l.drop f).take (i - f), i + 2, 0) := by
  subst hf
  unfold piRest
  rw [if_neg (by simp), if_neg (by rw [h]; simp), hn, if_neg, Int.toNat_natCast]
  rintro (h' | ⟨h1, h2⟩)
  · omega
  · exact h2 (by rw [hi h1])
/-- A reserved name's contract, for every later world. -/
def ResC (fn : Nat) (w : World) (s : List UInt8) : Prop := ∀ W, Below w.heap.size w W → Calls Tryz.prog fn #[.string ⟨s.toArray⟩] W fun e w' => e = .returned (.bool (resB s)) ∧ Below W.heap.size W w'
end Go.Proofs.YtmclngahdklfkaaGreatDoor
/- misc.Pi. -/
namespace Go.Proofs.YtmclngahdklfkaaGreatDoor
open Go.ChangeShapes Go.WideShapes Go.ChangeAt Go.RowKit
set_option linter.unusedVariables false
theorem findI_index (l p : List UInt8) (k : Nat) : (Lib.index (l.drop k) p < 0 ∧ findI l k p = -1 ∧ Lib.index (l.drop k) p = -1) ∨ ∃ j : Nat, Lib.index (l.drop k) p = (j : Int) ∧ findI l k p = ((k + j : Nat) : Int) := by
  have hge := Lib.index_ge (l.drop k) p
  by_cases h : Lib.index (l.drop k) p < 0
  · refine .inl ⟨h, ?_, by omega⟩
    unfold findI
    rw [if_pos h]
  · refine .inr ⟨(Lib.index (l.drop k) p).toNat, by omega, ?_⟩
    unfold findI
    rw [if_neg h]
    omega
set_option maxRecDepth 100000 in
set_option maxHeartbeats 4000000 in
theorem miscPi_range (A : Option Addr) (n cap : Nat) (at_ : Int) (w : World) (ha : at_ < 0 ∨ (n : Int) < at_) :
    Calls Tryz.prog 63 #[.slice A n cap, .int .i64 at_] w fun e w' => e = .returned (out4V ([], [], 0, 3)) ∧ Below w.heap.size w w' := by
  by_cases h0 : at_ < 0
  · have hd : decide (at_ < 0) = true := by simpa using h0
    clear ha
    go_enter Tryz.func63, Tryz.ntmps63
    go_wp2
    (try simp only [Exit.inBlock, Exit.then])
    refine bodyPost_ret (results_tmp4 rfl _ _ _) rfl ?_
    exact ⟨rfl, Below.refl _ _⟩
  · have h1 : (n : Int) < at_ := by omega
    clear ha
    go_enter Tryz.func63, Tryz.ntmps63
    go_wp2
    (try simp only [Exit.inBlock, Exit.then])
    refine bodyPost_ret (results_tmp4 rfl _ _ _) rfl ?_
    exact ⟨rfl, Below.refl _ _⟩
set_option maxRecDepth 100000 in
set_option maxHeartbeats 4000000 in
theorem miscPi_in (A : Option Addr) (n cap : Nat) (l : List UInt8) (k : Nat) (w : World) (h : Byt w w.heap.size A n cap l) (hF : Forms w) (hT : TabN w) (hM : MaxL w) (hm : n ≤ 50000) (hk : k ≤ n) (hR : ResC 85 w (plainOut l (k + 2)).1) :
    Calls Tryz.prog 63 #[.slice A n cap, .int .i64 k] w fun e w' => e = .returned (out4V (piOut l k)) ∧ Below w.heap.size w w' := by
  have kc := fun (w : World) (C : Array Value) (n c : Nat) => Lib.run_convert_bytes_const (P := Tryz.prog) w 22 5 C n c Tryz.underlying22 Tryz.underlying5
  have hk' : ¬ (n : Int) < (k : Int) := by omega
  have hk0 : (0 : Int) ≤ (k : Int) := by omega
  have hk1 : (k : Int) ≤ 50000 := by omega
  have hln := h.length
  have hrk : ∀ W : World, (Instr.slice 22 (.slice A n cap) (some (.int .i64 (k : Int))) none none).run Tryz.prog W = .ok (.slice (cutA A cap k) (n - k) (cap - k)) W := fun W => run_from A n cap k hk
  have hL := hT.low hF
  have hA0 := alloc_const w [60, 63] (2, 3) (by simp)
  have C1 := Lib.hid (hasPrefix_c _ _ _ _ _ _ _ _ _ _ _ ((h.below hA0.1).drop hk) hA0.2)
  have B0 := Lib.hid hA0.1
  have hcap := h.le
  have HH := Lib.hid (And.intro h (And.intro hF (And.intro hT (And.intro hM hL))))
  clear hA0
  by_cases hp : [60, 63].isPrefixOf (l.drop k) = true
  · have hkl : k + 2 ≤ n := by have := pre_len hp; simp at this; omega
    rw [hp] at C1
    have HO : Hid (piOut l k = piRest l (plainOut l (k + 2))) := Lib.hid (by unfold piOut; rw [if_neg (by rw [hp]; simp)])
    rw [HO.out]
    have hle := plainOut_le l (k + 2) (by omega)
    have C2 : Hid (∀ W, Below w.heap.size w W → Calls Tryz.prog 95 #[.slice A n cap, .int .i64 ((k : Int) + 2)] W fun e w' => e = .returned (outV (plainOut l (k + 2))) ∧ Below W.heap.size W w') := Lib.hid fun W hb => by
      have := plain_c A n cap l (k + 2) W ((h.below hb).more hb.size) (hF.below hb hF.lt) (hT.below hb hL) (by omega) hkl
      rwa [show ((k + 2 : Nat) : Int) = (k : Int) + 2 by omega] at this
    clear HO hp
    generalize plainOut l (k + 2) = po at *
    obtain ⟨s, t, f⟩ := po
    unfold outV at C2
    simp only at C2 hle hR
    have HR := Lib.hid hR
    clear hR
    by_cases hf : f = 0
    · subst hf
      have htl := hle rfl
      clear hle
      have CB : Hid (∀ W, Below w.heap.size w W → Calls Tryz.prog 43 #[.slice A n cap, .int .i64 t] W fun e w' => e = .returned (.int .i64 (blankTo l t)) ∧ W = w') := Lib.hid fun W hb => blanks_c A n cap l t _ W (h.below hb) (by omega) (by omega)
      have hbt := blankTo_le l t (by omega)
      cases hrs : resB s with
      | true =>
        rw [piRest_res l s t hrs]
        unfold ResC at HR
        rw [hrs] at HR
        clear h hF hT hM hL hln hrs hbt hcap
        go_enter Tryz.func63, Tryz.ntmps63
        go_wp2_with fail
        refine C1.out.mono ?_
        rintro e w1 ⟨rfl, rfl⟩
        clear kc
        go_wp2_with fail
        refine (C2.out _ B0.out).mono ?_
        rintro e w2 ⟨rfl, hb⟩
        have B1 := Lib.hid (B0.out.trans (hb.mono B0.out.size))
        clear hb
        go_wp2_with fail
        refine (HR.out _ B1.out).mono ?_
        rintro e w3 ⟨rfl, hb⟩
        have B2 := Lib.hid (B1.out.trans (hb.mono B1.out.size))
        clear hb
        go_wp2
        (try simp only [Exit.inBlock, Exit.then])
        refine bodyPost_ret (results_tmp4 rfl _ _ _) rfl ?_
        exact ⟨rfl, B2.out⟩
      | false =>
        unfold ResC at HR
        rw [hrs] at HR
        have HRS := Lib.hid hrs
        clear hrs
        have hrb : ∀ W : World, (Instr.slice 22 (.slice A n cap) (some (.int .i64 (blankTo l t : Int))) none none).run Tryz.prog W = .ok (.slice (cutA A cap (blankTo l t)) (n - blankTo l t) (cap - blankTo l t)) W := fun W => run_from A n cap (blankTo l t) (by omega)
        have CI : Hid (∀ W, Below w.heap.size w W → Calls Tryz.prog 96 #[.slice (cutA A cap (blankTo l t)) (n - blankTo l t) (cap - blankTo l t), .slice (some ⟨W.heap.size, 0, none⟩) 2 2] (W.alloc (.cells #[.int .u8 63, .int .u8 62] 5 (2, 3))) fun e w' => e = .returned (.int .i64 (Lib.index (l.drop (blankTo l t)) [63, 62])) ∧ Hid (Below w.heap.size w w')) := Lib.hid fun W hb => by
          have hA1 := alloc_const W [63, 62] (2, 3) (by simp)
          have hb1 := hb.trans (hA1.1.mono hb.size)
          exact (bindex_c _ _ _ _ _ _ _ _ _ _ _ ((h.below hb1).drop (k := blankTo l t) (by omega)) hA1.2 (hM.below hb1 hM.lt) (by simp) (by omega) (by simp)).mono fun e w' ⟨he, q, hq⟩ => ⟨he, Lib.hid (hq ▸ below_drewN' hb1)⟩
        rcases findI_index l [63, 62] (blankTo l t) with ⟨_, hf, hx⟩ | ⟨j, hx, hf⟩
        · rw [piRest_no l s t _ HRS.out rfl (by rw [hf]; omega)]
          rw [hx] at CI
          clear h hF hT hM hL hln hf hbt hcap hx
          generalize blankTo l t = b at *
          generalize n - b = nb at *
          generalize cap - b = cb at *
          go_enter Tryz.func63, Tryz.ntmps63
          go_wp2_with fail
          refine C1.out.mono ?_
          rintro e w1 ⟨rfl, rfl⟩
          go_wp2_with fail
          refine (C2.out _ B0.out).mono ?_
          rintro e w2 ⟨rfl, hb⟩
          have B1 := Lib.hid (B0.out.trans (hb.mono B0.out.size))
          clear hb
          go_wp2_with fail
          refine (HR.out _ B1.out).mono ?_
          rintro e w3 ⟨rfl, hb⟩
          have B2 := Lib.hid (B1.out.trans (hb.mono B1.out.size))
          clear hb
          go_wp2_with fail
          refine (CB.out _ B2.out).mono ?_
          rintro e wq ⟨rfl, rfl⟩
          go_wp2_with fail
          refine (CI.out _ B2.out).mono ?_
          rintro e w4 ⟨rfl, B3⟩
          clear kc
          go_wp2
          (try simp only [Exit.inBlock, Exit.then])
          refine bodyPost_ret (results_tmp4 rfl _ _ _) rfl ?_
          exact ⟨rfl, B3.out⟩
        · have hjl : blankTo l t + j + 2 ≤ l.length := by
            have := Lib.index_room (l.drop (blankTo l t)) [63, 62] (by rw [hx]; omega)
            rw [hx, List.length_drop] at this
            simp at this
            omega
          rw [hx] at CI
          have hj0 : ¬ (j : Int) < 0 := by omega
          have hj1 : (j : Int) ≤ 50000 := by omega
          have ht1 : (t : Int) ≤ 50000 := by omega
          have hb1 : (blankTo l t : Int) ≤ 50000 := by omega
          by_cases hjt : blankTo l t = t ∧ 0 < j
          · have hres : piRest l (s, t, 0) = ([], [], 0, 7) := piRest_tight l s t (t + j) HRS.out hjt.1 (by rw [← hjt.1, hf, hjt.1]) (by omega)
            rw [hres]
            have hbe : ((blankTo l t : Int) == (t : Int)) = true := by simp; omega
            have hjp : (0 : Int) < (j : Int) := by omega
            clear h hF hT hM hL hln hf hbt hcap hx hres hjl hjt
            generalize blankTo l t = b at *
            generalize n - b = nb at *
            generalize cap - b = cb at *
            go_enter Tryz.func63, Tryz.ntmps63
            go_wp2_with fail
            refine C1.out.mono ?_
            rintro e w1 ⟨rfl, rfl⟩
            go_wp2_with fail
            refine (C2.out _ B0.out).mono ?_
            rintro e w2 ⟨rfl, hb⟩
            have B1 := Lib.hid (B0.out.trans (hb.mono B0.out.size))
            clear hb
            go_wp2_with fail
            refine (HR.out _ B1.out).mono ?_
            rintro e w3 ⟨rfl, hb⟩
            have B2 := Lib.hid (B1.out.trans (hb.mono B1.out.size))
            clear hb
            go_wp2_with fail
            refine (CB.out _ B2.out).mono ?_
            rintro e wq ⟨rfl, rfl⟩
            go_wp2_with fail
            refine (CI.out _ B2.out).mono ?_
            rintro e w4 ⟨rfl, B3⟩
            clear kc
            go_wp2
            (try simp only [Exit.inBlock, Exit.then])
            refine bodyPost_ret (results_tmp4 rfl _ _ _) rfl ?_
            exact ⟨rfl, B3.out⟩
          · have hres : piRest l (s, t, 0) = (s, (l.drop (blankTo l t)).take j, blankTo l t + j + 2, 0) := by
              have := piRest_yes l s t (blankTo l t) (blankTo l t + j) HRS.out rfl hf (fun e => by
                rcases Nat.eq_zero_or_pos j with g | g
                · omega
                · exact absurd ⟨e, g⟩ hjt)
              rw [this, show blankTo l t + j - blankTo l t = j by omega]
            rw [hres]
            have HST : Hid (∀ W, Below w.heap.size w W → (convert 22 9 (.slice (cutA A cap (blankTo l t)) j (cap - blankTo l t))).run Tryz.prog W = .ok (.string ⟨((l.drop (blankTo l t)).take j).toArray⟩) W) := Lib.hid fun W hb => (((h.below hb).drop (k := blankTo l t) (by omega)).take (k := j) (by omega)).str
            have hrf : ∀ w2 : World, (Instr.slice 22 (.slice A n cap) (some (.int .i64 (blankTo l t : Int))) (some (.int .i64 ((blankTo l t : Int) + (j : Int)))) none).run Tryz.prog w2 = .ok (.slice (cutA A cap (blankTo l t)) j (cap - blankTo l t)) w2 := fun w2 => by
              have := run_fromTo (w := w2) A n cap (blankTo l t) (blankTo l t + j) (by omega) (by omega)
              rwa [show blankTo l t + j - blankTo l t = j by omega, show ((blankTo l t + j : Nat) : Int) = (blankTo l t : Int) + (j : Int) by omega] at this
            rcases (show blankTo l t ≠ t ∨ (blankTo l t = t ∧ j = 0) by omega) with hbne | ⟨hbe, hj00⟩
            · have hbe : ((blankTo l t : Int) == (t : Int)) = false := by simp; omega
              clear h hF hT hM hL hln hf hbt hcap hx hres hjl hjt hbne
              generalize (l.drop (blankTo l t)).take j = T at *
              generalize blankTo l t = b at *
              generalize n - b = nb at *
              generalize cap - b = cb at *
              go_enter Tryz.func63, Tryz.ntmps63
              go_wp2_with fail
              refine C1.out.mono ?_
              rintro e w1 ⟨rfl, rfl⟩
              go_wp2_with fail
              refine (C2.out _ B0.out).mono ?_
              rintro e w2 ⟨rfl, hb⟩
              have B1 := Lib.hid (B0.out.trans (hb.mono B0.out.size))
              clear hb
              go_wp2_with fail
              refine (HR.out _ B1.out).mono ?_
              rintro e w3 ⟨rfl, hb⟩
              have B2 := Lib.hid (B1.out.trans (hb.mono B1.out.size))
              clear hb
              go_wp2_with fail
              refine (CB.out _ B2.out).mono ?_
              rintro e wq ⟨rfl, rfl⟩
              go_wp2_with fail
              refine (CI.out _ B2.out).mono ?_
              rintro e w4 ⟨rfl, B3⟩
              clear kc
              have hst : ∀ m, (convert 22 9 (.slice (cutA A cap b) j cb)).run Tryz.prog (w4.drewN m) = .ok (.string ⟨T.toArray⟩) (w4.drewN m) := fun m => HST.out _ (below_drewN' B3.out)
              have hs1 : IntKind.i64.wrap ((b : Int) + (j : Int)) = (b : Int) + (j : Int) := by rw [IntKind.wrap_i64]; omega
              have hs2 : IntKind.i64.wrap ((b : Int) + (j : Int) + 2) = (b : Int) + (j : Int) + 2 := by rw [IntKind.wrap_i64]; omega
              go_wp2
              go_quiet (fail)
              have B4 := Lib.hid (below_drewN' (n := nq) B3.out)
              clear hst
              generalize w4.drewN nq = w5 at *
              go_wp2
              (try simp only [Exit.inBlock, Exit.then])
              refine bodyPost_ret (results_tmp4 rfl _ _ _) rfl ?_
              exact ⟨rfl, B4.out⟩
            · subst hj00
              have hbe' : ((blankTo l t : Int) == (t : Int)) = true := by simp; omega
              clear h hF hT hM hL hln hf hbt hcap hx hres hjl hjt hbe
              generalize (l.drop (blankTo l t)).take 0 = T at *
              generalize blankTo l t = b at *
              generalize n - b = nb at *
              generalize cap - b = cb at *
              go_enter Tryz.func63, Tryz.ntmps63
              go_wp2_with fail
              refine C1.out.mono ?_
              rintro e w1 ⟨rfl, rfl⟩
              go_wp2_with fail
              refine (C2.out _ B0.out).mono ?_
              rintro e w2 ⟨rfl, hb⟩
              have B1 := Lib.hid (B0.out.trans (hb.mono B0.out.size))
              clear hb
              go_wp2_with fail
              refine (HR.out _ B1.out).mono ?_
              rintro e w3 ⟨rfl, hb⟩
              have B2 := Lib.hid (B1.out.trans (hb.mono B1.out.size))
              clear hb
              go_wp2_with fail
              refine (CB.out _ B2.out).mono ?_
              rintro e wq ⟨rfl, rfl⟩
              go_wp2_with fail
              refine (CI.out _ B2.out).mono ?_
              rintro e w4 ⟨rfl, B3⟩
              clear kc
              have hst : ∀ m, (convert 22 9 (.slice (cutA A cap b) 0 cb)).run Tryz.prog (w4.drewN m) = .ok (.string ⟨T.toArray⟩) (w4.drewN m) := fun m => HST.out _ (below_drewN' B3.out)
              have hrf2 := hrf
              simp only [Int.natCast_zero, Int.add_zero] at hrf2
              go_wp2
              go_quiet (fail)
              have B4 := Lib.hid (below_drewN' (n := nq) B3.out)
              clear hst
              generalize w4.drewN nq = w5 at *
              go_wp2
              (try simp only [Exit.inBlock, Exit.then])
              refine bodyPost_ret (results_tmp4 rfl _ _ _) rfl ?_
              exact ⟨rfl, B4.out⟩
    · have hfz : ((f : Int) != 0) = true := by simp; omega
      rw [piRest_err l s t f hf]
      clear h hF hT hM hL hln hf hle HR hcap
      go_enter Tryz.func63, Tryz.ntmps63
      go_wp2_with fail
      refine C1.out.mono ?_
      rintro e w1 ⟨rfl, rfl⟩
      clear kc
      go_wp2_with fail
      refine (C2.out _ B0.out).mono ?_
      rintro e w2 ⟨rfl, hb⟩
      have B1 := Lib.hid (B0.out.trans (hb.mono B0.out.size))
      clear hb
      go_wp2
      (try simp only [Exit.inBlock, Exit.then])
      refine bodyPost_ret (results_tmp4 rfl _ _ _) rfl ?_
      exact ⟨rfl, B1.out⟩
  · have hp' := bfalse hp
    rw [hp'] at C1
    have HO : Hid (piOut l k = ([], [], 0, 7)) := Lib.hid (by unfold piOut; rw [if_pos hp'])
    rw [HO.out]
    clear h hF hT hM hL hp hp' hln HO hR hcap
    go_enter Tryz.func63, Tryz.ntmps63
    go_wp2_with fail
    refine C1.out.mono ?_
    rintro e w1 ⟨rfl, rfl⟩
    clear kc
    go_wp2
    (try simp only [Exit.inBlock, Exit.then])
    refine bodyPost_ret (results_tmp4 rfl _ _ _) rfl ?_
    exact ⟨rfl, B0.out⟩
end Go.Proofs.YtmclngahdklfkaaGreatDoor
/- Plain law: comments and marked texts as they are put. -/
namespace Go.Proofs.YtmclngahdklfkaaGreatDoor
open Go.ChangeShapes Go.WideShapes Go.ChangeAt Go.RowKit
set_option linter.unusedVariables false
theorem idx_put (s q : List UInt8) (hq : q ≠ []) (h : ∀ j, j < s.length → q.isPrefixOf ((s ++ q).drop j) = false) : Lib.index (s ++ q) q = (s.length : Int) := by
  refine Lib.index_first (by simp) ?_ (fun j hj => h j hj)
  unfold Lib.occAt
  rw [List.drop_left]
  exact List.isPrefixOf_iff_prefix.2 ⟨[], by simp⟩
theorem put_comment (s : List UInt8) (h : mayComment s = true) : commentOut ([60, 33, 45, 45] ++ s ++ [45, 45, 62]) 0 = (s, s.length + 7, 0) := by
  have hx : Lib.index (s ++ [45, 45, 62]) [45, 45, 62] = (s.length : Int) := idx_put s [45, 45, 62] (by simp) (fun j hj => by
    refine Classical.byContradiction fun hc => ?_
    have hoj : [45, 45, 62].isPrefixOf ((s ++ [45, 45, 62]).drop j) = true := by simpa using hc
    unfold mayComment at h
    have hcn : Lib.contains (s ++ [45]) [45, 45] = true := by
      refine contains_true _ _ j (by simp; omega) (pre_of_get fun i hi => ?_)
      simp at hi
      have g := pre_get hoj i (by simp; omega)
      rcases (show j + i < s.length ∨ j + i = s.length by omega) with g1 | g1
      · rw [List.getElem?_append_left g1] at g ⊢
        rw [g]
        rcases (show i = 0 ∨ i = 1 by omega) with rfl | rfl <;> rfl
      · rw [List.getElem?_append_right (by omega), g1, Nat.sub_self]
        rcases (show i = 0 ∨ i = 1 by omega) with rfl | rfl <;> rfl
    rw [hcn] at h
    cases h)
  have e1 : ([60, 33, 45, 45] ++ s ++ [45, 45, 62] : List UInt8).drop (0 + 4) = s ++ [45, 45, 62] := by simp
  rw [← marked_comment _ 0 (Nat.zero_le _), marked_yes (a := 4) (b := 3) (j := s.length) rfl rfl (by simp) (by rw [e1]; exact hx) (by rw [e1, List.take_left]; exact h)]
  rw [e1, List.take_left]
  congr 2
  omega
theorem put_cdata (s : List UInt8) (h : mayCData s = true) : cdataOut ([60, 33, 91, 67, 68, 65, 84, 65, 91] ++ s ++ [93, 93, 62]) 0 = (s, s.length + 12, 0) := by
  have hx : Lib.index (s ++ [93, 93, 62]) [93, 93, 62] = (s.length : Int) := idx_put s [93, 93, 62] (by simp) (fun j hj => by
    refine Classical.byContradiction fun hc => ?_
    have hoj : [93, 93, 62].isPrefixOf ((s ++ [93, 93, 62]).drop j) = true := by simpa using hc
    unfold mayCData at h
    rcases (show j + 3 ≤ s.length ∨ j + 2 = s.length ∨ j + 1 = s.length by omega) with g | g | g
    · have hcn : Lib.contains s [93, 93, 62] = true := by
        refine contains_true _ _ j (by omega) (pre_of_get fun i hi => ?_)
        have g2 := pre_get hoj i hi
        simp at hi
        rwa [List.getElem?_append_left (by omega)] at g2
      rw [hcn] at h
      cases h
    · have g2 := pre_get hoj 2 (by simp)
      rw [List.getElem?_append_right (by omega), g, Nat.sub_self] at g2
      simp at g2
    · have g2 := pre_get hoj 2 (by simp)
      rw [List.getElem?_append_right (by omega), show j + 2 - s.length = 1 by omega] at g2
      simp at g2)
  have e1 : ([60, 33, 91, 67, 68, 65, 84, 65, 91] ++ s ++ [93, 93, 62] : List UInt8).drop (0 + 9) = s ++ [93, 93, 62] := by simp
  rw [← marked_cdata _ 0 (Nat.zero_le _), marked_yes (a := 9) (b := 3) (j := s.length) rfl rfl (by simp) (by rw [e1]; exact hx) (by rw [e1, List.take_left]; exact h)]
  rw [e1, List.take_left]
  congr 2
  omega
theorem findI_contains (l p : List UInt8) : 0 ≤ findI l 0 p ↔ Lib.contains l p = true := by
  unfold findI Lib.contains
  rw [List.drop_zero]
  split
  · rename_i h
    simp only [decide_eq_true_eq]
    omega
  · rename_i h
    simp only [decide_eq_true_eq]
    omega
end Go.Proofs.YtmclngahdklfkaaGreatDoor
/- Statements of chapter 8. -/
namespace Go.Proofs.YtmclngahdklfkaaGreatDoor
open Go.ChangeShapes Go.WideShapes Go.ChangeAt Go.RowKit
set_option linter.unusedVariables false
set_option maxRecDepth 100000 in
set_option maxHeartbeats 4000000 in
theorem reserved_len (s : List UInt8) (w : World) (hs : s.length ≠ 3) : Calls Tryz.prog 85 #[.string ⟨s.toArray⟩] w fun e w' => e = .returned (.bool false) ∧ w = w' := by
  have hl : ((s.length : Int) == 3) = false := by simp; omega
  go_enter Tryz.func85, Tryz.ntmps85
  go_wp2
  go_ret
  exact ⟨rfl, rfl⟩
/-- What is asked of the world. -/
structure W8 (w : World) : Prop where
  tabs : TabN w
  forms : Forms w
  maxl : MaxL w
theorem W8.below {w w' : World} (h : W8 w) (hb : Below w.heap.size w w') : W8 w' := ⟨h.tabs.below hb (h.tabs.low h.forms), h.forms.below hb h.forms.lt, h.maxl.below hb h.maxl.lt⟩
end Go.Proofs.YtmclngahdklfkaaGreatDoor
/- Reserved names. -/
namespace Go.Proofs.YtmclngahdklfkaaGreatDoor
open Go.ChangeShapes Go.WideShapes Go.ChangeAt Go.RowKit
set_option linter.unusedVariables false
theorem resB_len (s : List UInt8) (h : s.length ≠ 3) : resB s = false := by
  unfold resB
  match s, h with
  | [], _ => rfl
  | [_], _ => simp [Lib.equalFold]
  | [_, _], _ => simp [Lib.equalFold]
  | [_, _, _], h => simp at h
  | _ :: _ :: _ :: _ :: _, _ => simp [Lib.equalFold]
theorem resB_three (a b c : UInt8) : resB [a, b, c] = (Lib.foldEq a 120 && (Lib.foldEq b 109 && Lib.foldEq c 108)) := by
  unfold resB
  simp [Lib.equalFold]
theorem fold_not (a u v : UInt8) (hu : 97 ≤ u.toNat) (hv : v.toNat + 32 = u.toNat) (h1 : ¬ a = u) (h2 : ¬ a = v) : Lib.foldEq a u = false := by
  unfold Lib.foldEq
  have n1 : ¬ a.toNat = u.toNat := fun e => h1 (UInt8.toNat_inj.1 e)
  have n2 : ¬ a.toNat = v.toNat := fun e => h2 (UInt8.toNat_inj.1 e)
  exact decide_eq_false (by omega)
set_option maxRecDepth 100000 in
set_option maxHeartbeats 4000000 in
theorem refReserved_len (s : List UInt8) (w : World) (hs : s.length ≠ 3) : Calls Tryz.prog 70 #[.string ⟨s.toArray⟩] w fun e w' => e = .returned (.bool (resB s)) ∧ w = w' := by
  rw [resB_len s hs]
  have hl : ((s.length : Int) != 3) = true := by simp; omega
  go_enter Tryz.func70, Tryz.ntmps70
  go_wp2
  go_ret
  exact ⟨rfl, rfl⟩
set_option maxRecDepth 100000 in
set_option maxHeartbeats 4000000 in
theorem refReserved_three (a b c : UInt8) (w : World) : Calls Tryz.prog 70 #[.string ⟨[a, b, c].toArray⟩] w fun e w' => e = .returned (.bool (resB [a, b, c])) ∧ w = w' := by
  rw [resB_three]
  have i0 : (Instr.index 9 (.string ⟨[a, b, c].toArray⟩) (.int .i64 0)).run Tryz.prog w = .ok (.int .u8 (a.toNat : Int)) w := run_strIndex [a, b, c] 0 (by simp) w
  have i1 : (Instr.index 9 (.string ⟨[a, b, c].toArray⟩) (.int .i64 1)).run Tryz.prog w = .ok (.int .u8 (b.toNat : Int)) w := run_strIndex [a, b, c] 1 (by simp) w
  have i2 : (Instr.index 9 (.string ⟨[a, b, c].toArray⟩) (.int .i64 2)).run Tryz.prog w = .ok (.int .u8 (c.toNat : Int)) w := run_strIndex [a, b, c] 2 (by simp) w
  have hsz : (⟨[a, b, c].toArray⟩ : ByteArray).size = 3 := rfl
  generalize (⟨[a, b, c].toArray⟩ : ByteArray) = S at *
  by_cases ha1 : a = 120
  · subst ha1
    have ea : Lib.foldEq 120 120 = true := by decide
    have ta : (UInt8.toNat 120 : Int) = 120 := rfl
    rw [ta] at i0
    by_cases hb1 : b = 109
    · subst hb1
      have eb : Lib.foldEq 109 109 = true := by decide
      have tb : (UInt8.toNat 109 : Int) = 109 := rfl
      rw [tb] at i1
      by_cases hc1 : c = 108
      · subst hc1
        have ec : Lib.foldEq 108 108 = true := by decide
        have tc : (UInt8.toNat 108 : Int) = 108 := rfl
        rw [tc] at i2
        rw [ea, eb, ec]
        clear ea ta eb tb ec tc
        go_enter Tryz.func70, Tryz.ntmps70
        go_wp2
        go_ret
        exact ⟨rfl, rfl⟩
      · by_cases hc2 : c = 76
        · subst hc2
          have ec : Lib.foldEq 76 108 = true := by decide
          have tc : (UInt8.toNat 76 : Int) = 76 := rfl
          rw [tc] at i2
          rw [ea, eb, ec]
          clear ea ta eb tb ec tc hc1
          go_enter Tryz.func70, Tryz.ntmps70
          go_wp2
          go_ret
          exact ⟨rfl, rfl⟩
        · have ec : Lib.foldEq c 108 = false := fold_not c 108 76 (by decide) (by decide) hc1 hc2
          have nc : ((c.toNat : Int) == 108) = false := ne_byte c 108 108 rfl hc1
          have mc : ((c.toNat : Int) == 76) = false := ne_byte c 76 76 rfl hc2
          rw [ea, eb, ec]
          clear ea ta eb tb ec hc1 hc2
          go_enter Tryz.func70, Tryz.ntmps70
          go_wp2
          go_ret
          exact ⟨rfl, rfl⟩
    · by_cases hb2 : b = 77
      · subst hb2
        have eb : Lib.foldEq 77 109 = true := by decide
        have tb : (UInt8.toNat 77 : Int) = 77 := rfl
        rw [tb] at i1
        by_cases hc1 : c = 108
        · subst hc1
          have ec : Lib.foldEq 108 108 = true := by decide
          have tc : (UInt8.toNat 108 : Int) = 108 := rfl
          rw [tc] at i2
          rw [ea, eb, ec]
          clear ea ta eb tb hb1 ec tc
          go_enter Tryz.func70, Tryz.ntmps70
          go_wp2
          go_ret
          exact ⟨rfl, rfl⟩
        · by_cases hc2 : c = 76
          · subst hc2
            have ec : Lib.foldEq 76 108 = true := by decide
            have tc : (UInt8.toNat 76 : Int) = 76 := rfl
            rw [tc] at i2
            rw [ea, eb, ec]
            clear ea ta eb tb hb1 ec tc hc1
            go_enter Tryz.func70, Tryz.ntmps70
            go_wp2
            go_ret
            exact ⟨rfl, rfl⟩
          · have ec : Lib.foldEq c 108 = false := fold_not c 108 76 (by decide) (by decide) hc1 hc2
            have nc : ((c.toNat : Int) == 108) = false := ne_byte c 108 108 rfl hc1
            have mc : ((c.toNat : Int) == 76) = false := ne_byte c 76 76 rfl hc2
            rw [ea, eb, ec]
            clear ea ta eb tb hb1 ec hc1 hc2
            go_enter Tryz.func70, Tryz.ntmps70
            go_wp2
            go_ret
            exact ⟨rfl, rfl⟩
      · have eb : Lib.foldEq b 109 = false := fold_not b 109 77 (by decide) (by decide) hb1 hb2
        have nb : ((b.toNat : Int) == 109) = false := ne_byte b 109 109 rfl hb1
        have mb : ((b.toNat : Int) == 77) = false := ne_byte b 77 77 rfl hb2
        rw [ea, eb]
        clear ea ta eb hb1 hb2
        go_enter Tryz.func70, Tryz.ntmps70
        go_wp2
        go_ret
        exact ⟨rfl, rfl⟩
  · by_cases ha2 : a = 88
    · subst ha2
      have ea : Lib.foldEq 88 120 = true := by decide
      have ta : (UInt8.toNat 88 : Int) = 88 := rfl
      rw [ta] at i0
      by_cases hb1 : b = 109
      · subst hb1
        have eb : Lib.foldEq 109 109 = true := by decide
        have tb : (UInt8.toNat 109 : Int) = 109 := rfl
        rw [tb] at i1
        by_cases hc1 : c = 108
        · subst hc1
          have ec : Lib.foldEq 108 108 = true := by decide
          have tc : (UInt8.toNat 108 : Int) = 108 := rfl
          rw [tc] at i2
          rw [ea, eb, ec]
          clear ea ta ha1 eb tb ec tc
          go_enter Tryz.func70, Tryz.ntmps70
          go_wp2
          go_ret
          exact ⟨rfl, rfl⟩
        · by_cases hc2 : c = 76
          · subst hc2
            have ec : Lib.foldEq 76 108 = true := by decide
            have tc : (UInt8.toNat 76 : Int) = 76 := rfl
            rw [tc] at i2
            rw [ea, eb, ec]
            clear ea ta ha1 eb tb ec tc hc1
            go_enter Tryz.func70, Tryz.ntmps70
            go_wp2
            go_ret
            exact ⟨rfl, rfl⟩
          · have ec : Lib.foldEq c 108 = false := fold_not c 108 76 (by decide) (by decide) hc1 hc2
            have nc : ((c.toNat : Int) == 108) = false := ne_byte c 108 108 rfl hc1
            have mc : ((c.toNat : Int) == 76) = false := ne_byte c 76 76 rfl hc2
            rw [ea, eb, ec]
            clear ea ta ha1 eb tb ec hc1 hc2
            go_enter Tryz.func70, Tryz.ntmps70
            go_wp2
            go_ret
            exact ⟨rfl, rfl⟩
      · by_cases hb2 : b = 77
        · subst hb2
          have eb : Lib.foldEq 77 109 = true := by decide
          have tb : (UInt8.toNat 77 : Int) = 77 := rfl
          rw [tb] at i1
          by_cases hc1 : c = 108
          · subst hc1
            have ec : Lib.foldEq 108 108 = true := by decide
            have tc : (UInt8.toNat 108 : Int) = 108 := rfl
            rw [tc] at i2
            rw [ea, eb, ec]
            clear ea ta ha1 eb tb hb1 ec tc
            go_enter Tryz.func70, Tryz.ntmps70
            go_wp2
            go_ret
            exact ⟨rfl, rfl⟩
          · by_cases hc2 : c = 76
            · subst hc2
              have ec : Lib.foldEq 76 108 = true := by decide
              have tc : (UInt8.toNat 76 : Int) = 76 := rfl
              rw [tc] at i2
              rw [ea, eb, ec]
              clear ea ta ha1 eb tb hb1 ec tc hc1
              go_enter Tryz.func70, Tryz.ntmps70
              go_wp2
              go_ret
              exact ⟨rfl, rfl⟩
            · have ec : Lib.foldEq c 108 = false := fold_not c 108 76 (by decide) (by decide) hc1 hc2
              have nc : ((c.toNat : Int) == 108) = false := ne_byte c 108 108 rfl hc1
              have mc : ((c.toNat : Int) == 76) = false := ne_byte c 76 76 rfl hc2
              rw [ea, eb, ec]
              clear ea ta ha1 eb tb hb1 ec hc1 hc2
              go_enter Tryz.func70, Tryz.ntmps70
              go_wp2
              go_ret
              exact ⟨rfl, rfl⟩
        · have eb : Lib.foldEq b 109 = false := fold_not b 109 77 (by decide) (by decide) hb1 hb2
          have nb : ((b.toNat : Int) == 109) = false := ne_byte b 109 109 rfl hb1
          have mb : ((b.toNat : Int) == 77) = false := ne_byte b 77 77 rfl hb2
          rw [ea, eb]
          clear ea ta ha1 eb hb1 hb2
          go_enter Tryz.func70, Tryz.ntmps70
          go_wp2
          go_ret
          exact ⟨rfl, rfl⟩
    · have ea : Lib.foldEq a 120 = false := fold_not a 120 88 (by decide) (by decide) ha1 ha2
      have na : ((a.toNat : Int) == 120) = false := ne_byte a 120 120 rfl ha1
      have ma : ((a.toNat : Int) == 88) = false := ne_byte a 88 88 rfl ha2
      rw [ea]
      clear ea ha1 ha2
      go_enter Tryz.func70, Tryz.ntmps70
      go_wp2
      go_ret
      exact ⟨rfl, rfl⟩
theorem refReserved_c (s : List UInt8) (w : World) : Calls Tryz.prog 70 #[.string ⟨s.toArray⟩] w fun e w' => e = .returned (.bool (resB s)) ∧ w = w' := by
  by_cases h : s.length = 3
  · match s, h with
    | [a, b, c], _ => exact refReserved_three a b c w
  · exact refReserved_len s w h
set_option maxRecDepth 100000 in
set_option maxHeartbeats 4000000 in
theorem miscReserved_c (s : List UInt8) (w : World) (hT : FoldT w) : Calls Tryz.prog 85 #[.string ⟨s.toArray⟩] w fun e w' => e = .returned (.bool (resB s)) ∧ Below w.heap.size w w' := by
  by_cases h : s.length = 3
  · have C1 := Lib.hid (equalFold_c s [120, 109, 108] w (by simp [h]) (by omega) xmlFold hT)
    have hl : ((s.length : Int) == 3) = true := by simp; omega
    unfold resB
    clear h hT
    generalize Lib.equalFold s [120, 109, 108] = r at *
    go_enter Tryz.func85, Tryz.ntmps85
    go_wp2_with fail
    refine (C1.out).mono ?_
    rintro e w1 ⟨rfl, hb⟩
    have B1 := Lib.hid hb
    clear hb
    go_wp2
    go_ret
    exact ⟨rfl, B1.out⟩
  · rw [resB_len s h]
    exact (reserved_len s w h).mono fun e w' ⟨he, hw⟩ => ⟨he, hw ▸ Below.refl _ _⟩
end Go.Proofs.YtmclngahdklfkaaGreatDoor
/- The law MiscReads. -/
namespace Go.Proofs.YtmclngahdklfkaaGreatDoor
open Go.ChangeShapes Go.WideShapes Go.ChangeAt Go.RowKit
set_option linter.unusedVariables false
structure W8F (w : World) : Prop extends W8 w where
  fold : FoldT w
theorem W8F.below {w w' : World} (h : W8F w) (hb : Below w.heap.size w w') : W8F w' := ⟨h.toW8.below hb, h.fold.below hb h.fold.lt⟩
theorem miscPiAt_c (A : Option Addr) (n cap : Nat) (l : List UInt8) (at_ : Int) (w : World) (h : Byt w w.heap.size A n cap l) (hW : W8F w) (hm : n ≤ 50000) :
    Calls Tryz.prog 63 #[.slice A n cap, .int .i64 at_] w fun e w' => e = .returned (out4V (piAt l at_)) ∧ Below w.heap.size w w' := by
  unfold piAt
  rw [h.length]
  by_cases ha : at_ < 0 ∨ (n : Int) < at_
  · rw [if_pos ha]
    exact miscPi_range A n cap at_ w ha
  · rw [if_neg ha]
    obtain ⟨k, rfl⟩ : ∃ k : Nat, at_ = (k : Int) := ⟨at_.toNat, by omega⟩
    rw [Int.toNat_natCast]
    exact miscPi_in A n cap l k w h hW.forms hW.tabs hW.maxl hm (by omega) fun W hb => miscReserved_c _ W (hW.below hb).fold
end Go.Proofs.YtmclngahdklfkaaGreatDoor
/- Plain law of whole names. -/
namespace Go.Proofs.YtmclngahdklfkaaGreatDoor
open Go.ChangeShapes Go.WideShapes Go.ChangeAt Go.RowKit
set_option linter.unusedVariables false
/-- What a text begins with stands, whatever comes behind it. -/
theorem dec_append (l t : List UInt8) (r n : Nat) (h : dec l = some (r, n)) : dec (l ++ t) = some (r, n) := by
  cases l with
  | nil => simp [dec] at h
  | cons c l =>
    simp only [dec, List.cons_append] at h ⊢
    split at h
    · cases h
    · rename_i hn
      simp only [not_or, Nat.not_lt] at hn
      rw [if_neg (by simp only [not_or, Nat.not_lt, List.length_append]; exact ⟨hn.1, by omega⟩)]
      rw [List.take_append_of_le_length (by omega)]
      exact h
/-- A name to its end. -/
def wholeB (f g : Int → Bool) (l : List UInt8) : Bool := !l.isEmpty && decide (endL f g l.length l = l.length)
theorem endL_app (g : Int → Bool) (t : List UInt8) (hg : ∀ K, endL g g K t = 0) : ∀ (k : Nat) (f : Int → Bool) (l : List UInt8) (K : Nat), l ≠ [] → l.length ≤ k → endL f g k l = l.length → l.length ≤ K → endL f g K (l ++ t) = l.length
  | _, _, [], _, h, _, _, _ => absurd rfl h
  | 0, _, c :: l, _, _, hk, _, _ => by simp at hk
  | k + 1, f, c :: l, K, _, hk, he, hK => by
    obtain ⟨K, rfl⟩ : ∃ K', K = K' + 1 := ⟨K - 1, by simp at hK; omega⟩
    cases hd : dec (c :: l) with
    | none =>
      rw [endL_none _ _ _ _ hd] at he
      simp at he
    | some v =>
      obtain ⟨r, n⟩ := v
      cases hf : f r with
      | false =>
        rw [endL_no _ _ _ _ _ _ hd hf] at he
        simp at he
      | true =>
        rw [endL_yes _ _ _ _ _ _ hd hf] at he
        rw [endL_yes _ _ _ _ _ _ (dec_append _ t r n hd) hf]
        have hle := dec_le _ r n hd
        have hdl : ((c :: l).drop n).length = (c :: l).length - n := List.length_drop
        rw [List.drop_append_of_le_length (by omega)]
        by_cases hnil : (c :: l).drop n = []
        · rw [hnil, List.nil_append, hg]
          rw [hnil] at hdl
          simp only [List.length_nil] at hdl
          omega
        · rw [endL_app g t hg k g ((c :: l).drop n) K hnil (by omega) (by omega) (by omega)]
          omega
theorem dec_ascii (c : UInt8) (t : List UInt8) (hc : c.toNat < 128) : dec (c :: t) = some (c.toNat, 1) := by
  have hl : lenB c.toNat = 1 := by unfold lenB; rw [if_pos hc]
  have hm : msk 1 c.toNat = c.toNat := by unfold msk; rw [if_pos rfl]; omega
  have hr : isR (c.toNat : Int) = true := by unfold isR; simp; omega
  simp only [dec]
  rw [hl, if_neg (by simp)]
  simp [cont, hm, least, hr]
/-- What does not begin with a character that may stand in a name. -/
theorem endL_stop (f g : Int → Bool) (c : UInt8) (t : List UInt8) (hc : c.toNat < 128) (h : f (c.toNat : Int) = false) : ∀ K, endL f g K (c :: t) = 0 := fun K => endL_no _ _ _ _ _ _ (dec_ascii c t hc) h
end Go.Proofs.YtmclngahdklfkaaGreatDoor
/- Whole names. -/
namespace Go.Proofs.YtmclngahdklfkaaGreatDoor
open Go.ChangeShapes Go.WideShapes Go.ChangeAt Go.RowKit
set_option linter.unusedVariables false
theorem endL_wholeB (f g : Int → Bool) (l : List UInt8) (h : l ≠ []) : wholeB f g l = decide (endL f g l.length l = l.length) := by
  unfold wholeB
  cases l with
  | nil => exact absurd rfl h
  | cons a t => simp
set_option maxRecDepth 100000 in
set_option maxHeartbeats 4000000 in
theorem plainWhole_c (a b : Nat) (s : List UInt8) (w : World) (hF : Forms w) (hm : s.length ≤ 50000) (hf : Says 150 #[.pointer (some ⟨a, 0, none⟩)] w.heap.size w (noColon isStart)) (hg : Says 150 #[.pointer (some ⟨b, 0, none⟩)] w.heap.size w (noColon isMore)) :
    Calls Tryz.prog 81 #[plainsV a b, .string ⟨s.toArray⟩] w fun e w' => e = .returned (.bool (wholeB (noColon isStart) (noColon isMore) s)) ∧ Below w.heap.size w w' := by
  have hb : Below w.heap.size w (w.alloc (.cells #[.func (.func 150) #[] #[.pointer (some ⟨a, 0, none⟩)], .func (.func 150) #[] #[.pointer (some ⟨b, 0, none⟩)]] 108)) := Below.alloc (Below.refl w.heap.size w) (Nat.le_refl _) _
  have HB := Lib.hid hb
  by_cases hs : s = []
  · subst hs
    clear hF hb hf hg
    unfold plainsV
    go_enter Tryz.func81, Tryz.ntmps81
    go_wp2
    go_ret
    exact ⟨rfl, HB.out⟩
  · rw [endL_wholeB _ _ _ hs]
    have hne : s.isEmpty = false := by cases s with
      | nil => exact absurd rfl hs
      | cons a t => rfl
    have hlen : 0 < s.length := by cases s with
      | nil => exact absurd rfl hs
      | cons a t => simp
    have f0 := hp_new w (.cells #[.func (.func 150) #[] #[.pointer (some ⟨a, 0, none⟩)], .func (.func 150) #[] #[.pointer (some ⟨b, 0, none⟩)]] 108)
    have hi : (Tryz.prog.info? 108).map (·.size) = some 2 := by kernel_rfl
    obtain ⟨d, hu⟩ := isStruct_of (P := Tryz.prog) (t := 108) (by kernel_rfl)
    have hld := run_loadVar_row _ _ _ _ _ _ _ f0 hu rfl hi
    have hcv := run_toBytes (w.alloc (.cells #[.func (.func 150) #[] #[.pointer (some ⟨a, 0, none⟩)], .func (.func 150) #[] #[.pointer (some ⟨b, 0, none⟩)]] 108)) s
    have hb1 : Below w.heap.size w (Lib.bytesWorld (w.alloc (.cells #[.func (.func 150) #[] #[.pointer (some ⟨a, 0, none⟩)], .func (.func 150) #[] #[.pointer (some ⟨b, 0, none⟩)]] 108)) 5 ⟨s.toArray⟩) := hb.trans ((Lib.bytesWorld_below _ _ _).mono hb.size)
    have CE := end_c (noColon isStart) (noColon isMore) a b _ _ _ s 0 _ ((byt_new (w.alloc (.cells #[.func (.func 150) #[] #[.pointer (some ⟨a, 0, none⟩)], .func (.func 150) #[] #[.pointer (some ⟨b, 0, none⟩)]] 108)) s (by omega)).more (Nat.le_of_eq (Lib.bytesWorld_size _ _ _).symm)) (hF.below hb1 hF.lt) (by omega) (Nat.zero_le _) ((hf.below hb1).more hb1.size) ((hg.below hb1).more hb1.size)
    rw [List.drop_zero, Nat.zero_add] at CE
    have hsz1 : (w.alloc (.cells #[.func (.func 150) #[] #[.pointer (some ⟨a, 0, none⟩)], .func (.func 150) #[] #[.pointer (some ⟨b, 0, none⟩)]] 108)).heap.size = w.heap.size + 1 := by simp
    rw [hsz1] at CE hcv
    have C1 := Lib.hid CE
    have HB1 := Lib.hid hb1
    have hle := endL_le s.length (noColon isStart) (noColon isMore) s
    clear f0 hu hi hF hb hb1 CE hsz1 hf hg
    unfold plainsV at *
    generalize endL (noColon isStart) (noColon isMore) s.length s = k at *
    go_enter Tryz.func81, Tryz.ntmps81
    go_wp2_with fail
    refine (C1.out).mono ?_
    rintro e w1 ⟨rfl, hb⟩
    have B1 := Lib.hid (HB1.out.trans (hb.mono HB1.out.size))
    clear hb
    by_cases hk : k = s.length
    · have hkt : ((k : Int) == (s.length : Int)) = true := by simp; omega
      have HD : Hid (decide (k = s.length) = true) := Lib.hid (by simpa using hk)
      clear hk
      go_wp2
      go_ret
      rw [HD.out]
      exact ⟨rfl, B1.out⟩
    · have hkt : ((k : Int) == (s.length : Int)) = false := by simp; omega
      have HD : Hid (decide (k = s.length) = false) := Lib.hid (by simpa using hk)
      clear hk
      go_wp2
      go_ret
      rw [HD.out]
      exact ⟨rfl, B1.out⟩
set_option maxRecDepth 100000 in
set_option maxHeartbeats 4000000 in
theorem nameWhole_c (s : List UInt8) (w : World) (hF : Forms w) (hm : s.length ≤ 50000) (hT : TabN w) :
    Calls Tryz.prog 81 #[namesV, .string ⟨s.toArray⟩] w fun e w' => e = .returned (.bool (wholeB isStart isMore s)) ∧ Below w.heap.size w w' := by
  have hb : Below w.heap.size w (w.alloc (.cells #[.func (.func 114) #[] #[], .func (.func 115) #[] #[]] 108)) := Below.alloc (Below.refl w.heap.size w) (Nat.le_refl _) _
  have HB := Lib.hid hb
  by_cases hs : s = []
  · subst hs
    clear hF hb hT
    unfold namesV
    go_enter Tryz.func81, Tryz.ntmps81
    go_wp2
    go_ret
    exact ⟨rfl, HB.out⟩
  · rw [endL_wholeB _ _ _ hs]
    have hne : s.isEmpty = false := by cases s with
      | nil => exact absurd rfl hs
      | cons a t => rfl
    have hlen : 0 < s.length := by cases s with
      | nil => exact absurd rfl hs
      | cons a t => simp
    have f0 := hp_new w (.cells #[.func (.func 114) #[] #[], .func (.func 115) #[] #[]] 108)
    have hi : (Tryz.prog.info? 108).map (·.size) = some 2 := by kernel_rfl
    obtain ⟨d, hu⟩ := isStruct_of (P := Tryz.prog) (t := 108) (by kernel_rfl)
    have hld := run_loadVar_row _ _ _ _ _ _ _ f0 hu rfl hi
    have hcv := run_toBytes (w.alloc (.cells #[.func (.func 114) #[] #[], .func (.func 115) #[] #[]] 108)) s
    have hb1 : Below w.heap.size w (Lib.bytesWorld (w.alloc (.cells #[.func (.func 114) #[] #[], .func (.func 115) #[] #[]] 108)) 5 ⟨s.toArray⟩) := hb.trans ((Lib.bytesWorld_below _ _ _).mono hb.size)
    have CE := endA_c _ _ _ s 0 _ ((byt_new (w.alloc (.cells #[.func (.func 114) #[] #[], .func (.func 115) #[] #[]] 108)) s (by omega)).more (Nat.le_of_eq (Lib.bytesWorld_size _ _ _).symm)) (hF.below hb1 hF.lt) (by omega) (Nat.zero_le _) (hT.below hb1 (hT.low hF))
    rw [List.drop_zero, Nat.zero_add] at CE
    have hsz1 : (w.alloc (.cells #[.func (.func 114) #[] #[], .func (.func 115) #[] #[]] 108)).heap.size = w.heap.size + 1 := by simp
    rw [hsz1] at CE hcv
    have C1 := Lib.hid CE
    have HB1 := Lib.hid hb1
    have hle := endL_le s.length isStart isMore s
    clear f0 hu hi hF hb hb1 CE hsz1 hT
    unfold namesV at *
    generalize endL isStart isMore s.length s = k at *
    go_enter Tryz.func81, Tryz.ntmps81
    go_wp2_with fail
    refine (C1.out).mono ?_
    rintro e w1 ⟨rfl, hb⟩
    have B1 := Lib.hid (HB1.out.trans (hb.mono HB1.out.size))
    clear hb
    by_cases hk : k = s.length
    · have hkt : ((k : Int) == (s.length : Int)) = true := by simp; omega
      have HD : Hid (decide (k = s.length) = true) := Lib.hid (by simpa using hk)
      clear hk
      go_wp2
      go_ret
      rw [HD.out]
      exact ⟨rfl, B1.out⟩
    · have hkt : ((k : Int) == (s.length : Int)) = false := by simp; omega
      have HD : Hid (decide (k = s.length) = false) := Lib.hid (by simpa using hk)
      clear hk
      go_wp2
      go_ret
      rw [HD.out]
      exact ⟨rfl, B1.out⟩
set_option maxRecDepth 100000 in
set_option maxHeartbeats 4000000 in
theorem isPlain_c (s : List UInt8) (w : World) (hF : Forms w) (hT : TabN w) (hm : s.length ≤ 50000) :
    Calls Tryz.prog 47 #[.string ⟨s.toArray⟩] w fun e w' => e = .returned (.bool (wholeB (noColon isStart) (noColon isMore) s)) ∧ Below w.heap.size w w' := by
  have hp := plains_c w hT (hT.low hF)
  have HH := Lib.hid (And.intro hF hm)
  clear hF hT hm
  go_enter Tryz.func47, Tryz.ntmps47
  go_wp2_with fail
  refine hp.mono ?_
  rintro e w1 ⟨a, b, rfl, hb, hf, hg⟩
  have C1 := Lib.hid (plainWhole_c a b s w1 (HH.out.1.below hb HH.out.1.lt) HH.out.2 hf hg)
  have B1 := Lib.hid hb
  clear hf hg hb hp
  go_wp2_with fail
  refine (C1.out).mono ?_
  rintro e w2 ⟨rfl, hb⟩
  have B2 := Lib.hid (B1.out.trans (hb.mono B1.out.size))
  clear hb
  go_wp2
  go_ret
  exact ⟨rfl, B2.out⟩
set_option maxRecDepth 100000 in
set_option maxHeartbeats 4000000 in
theorem isName_c (s : List UInt8) (w : World) (hF : Forms w) (hT : TabN w) (hm : s.length ≤ 50000) :
    Calls Tryz.prog 120 #[.string ⟨s.toArray⟩] w fun e w' => e = .returned (.bool (wholeB isStart isMore s)) ∧ Below w.heap.size w w' := by
  have hp := Lib.hid (names_c w)
  have CW : Hid (∀ W, Below w.heap.size w W → Calls Tryz.prog 81 #[namesV, .string ⟨s.toArray⟩] W fun e w' => e = .returned (.bool (wholeB isStart isMore s)) ∧ Below W.heap.size W w') := Lib.hid fun W hb => nameWhole_c s W (hF.below hb hF.lt) hm (hT.below hb (hT.low hF))
  clear hF hT hm
  go_enter Tryz.func120, Tryz.ntmps120
  go_wp2_with fail
  refine (hp.out).mono ?_
  rintro e w1 ⟨rfl, hb⟩
  have B1 := Lib.hid hb
  clear hb
  go_wp2_with fail
  refine (CW.out _ B1.out).mono ?_
  rintro e w2 ⟨rfl, hb⟩
  have B2 := Lib.hid (B1.out.trans (hb.mono B1.out.size))
  clear hb
  go_wp2
  go_ret
  exact ⟨rfl, B2.out⟩
set_option maxRecDepth 100000 in
set_option maxHeartbeats 4000000 in
theorem refIs_c5 (pl : Bool) (s : List UInt8) (w : World) (hm : s.length ≤ 50000) :
    Calls Tryz.prog 55 #[.string ⟨s.toArray⟩, .bool pl] w fun e w' => e = .returned (.bool (wholeB (okName pl isStart) (okName pl isMore) s)) ∧ Below w.heap.size w w' := by
  by_cases hs : s = []
  · subst hs
    go_enter Tryz.func55, Tryz.ntmps55
    go_wp2
    go_ret
    exact ⟨rfl, Below.refl _ _⟩
  · rw [endL_wholeB _ _ _ hs]
    have hne : s.isEmpty = false := by cases s with
      | nil => exact absurd rfl hs
      | cons a t => rfl
    have hlen : 0 < s.length := by cases s with
      | nil => exact absurd rfl hs
      | cons a t => simp
    have hcv := run_toBytes w s
    have hb1 := Lib.bytesWorld_below w 5 ⟨s.toArray⟩
    have CE := refEnd_c pl _ _ _ s 0 _ ((byt_new w s (by omega)).more (Nat.le_of_eq (Lib.bytesWorld_size _ _ _).symm)) hm (Nat.zero_le _)
    rw [List.drop_zero, Nat.zero_add] at CE
    have C1 := Lib.hid CE
    have HB1 := Lib.hid hb1
    clear hb1 CE
    generalize endL (okName pl isStart) (okName pl isMore) s.length s = k at *
    go_enter Tryz.func55, Tryz.ntmps55
    go_wp2_with fail
    refine (C1.out).mono ?_
    rintro e w1 ⟨rfl, hb⟩
    have B1 := Lib.hid (HB1.out.trans (hb.mono HB1.out.size))
    clear hb
    by_cases hk : k = s.length
    · have hkt : ((k : Int) == (s.length : Int)) = true := by simp; omega
      have HD : Hid (decide (k = s.length) = true) := Lib.hid (by simpa using hk)
      clear hk
      go_wp2
      go_ret
      rw [HD.out]
      exact ⟨rfl, B1.out⟩
    · have hkt : ((k : Int) == (s.length : Int)) = false := by simp; omega
      have HD : Hid (decide (k = s.length) = false) := Lib.hid (by simpa using hk)
      clear hk
      go_wp2
      go_ret
      rw [HD.out]
      exact ⟨rfl, B1.out⟩
end Go.Proofs.YtmclngahdklfkaaGreatDoor
/- misc.PutPi. -/
namespace Go.Proofs.YtmclngahdklfkaaGreatDoor
open Go.ChangeShapes Go.WideShapes Go.ChangeAt Go.RowKit
set_option linter.unusedVariables false
def blankHead : List UInt8 → Bool
  | [] => false
  | c :: _ => isBl c
def dataOf : List UInt8 → List UInt8
  | [] => []
  | c :: d => 32 :: c :: d
def isPl (t : List UInt8) : Bool := wholeB (noColon isStart) (noColon isMore) t
def putPiOut (t d : List UInt8) : List UInt8 × Nat :=
  if isPl t = false ∨ resB t = true ∨ Lib.contains d [63, 62] = true ∨ blankHead d = true then ([], 7) else if 1024 < t.length then ([], 11) else ([60, 63] ++ t ++ dataOf d ++ [63, 62], 0)
theorem putPi_bad (t d : List UInt8) (h : isPl t = false ∨ resB t = true ∨ Lib.contains d [63, 62] = true ∨ blankHead d = true) : putPiOut t d = ([], 7) := by unfold putPiOut; rw [if_pos h]
theorem putPi_long (t d : List UInt8) (h1 : isPl t = true) (h2 : resB t = false) (h3 : Lib.contains d [63, 62] = false) (h4 : blankHead d = false) (h : 1024 < t.length) : putPiOut t d = ([], 11) := by
  unfold putPiOut
  rw [if_neg (by simp [h1, h2, h3, h4]), if_pos h]
theorem putPi_ok (t d : List UInt8) (h1 : isPl t = true) (h2 : resB t = false) (h3 : Lib.contains d [63, 62] = false) (h4 : blankHead d = false) (h : ¬ 1024 < t.length) : putPiOut t d = ([60, 63] ++ t ++ dataOf d ++ [63, 62], 0) := by
  unfold putPiOut
  rw [if_neg (by simp [h1, h2, h3, h4]), if_neg h]
def out2V (o : List UInt8 × Nat) : Value := .tuple #[.string ⟨o.1.toArray⟩, .int .i64 (o.2 : Int)]
set_option maxRecDepth 100000 in
set_option maxHeartbeats 4000000 in
theorem putPi_c (t d : List UInt8) (w : World) (hW : W8F w) (ht : t.length ≤ 5000) (hd : d.length ≤ 5000) :
    Calls Tryz.prog 50 #[.string ⟨t.toArray⟩, .string ⟨d.toArray⟩] w fun e w' => e = .returned (out2V (putPiOut t d)) ∧ Below w.heap.size w w' := by
  have C1 : Hid (Calls Tryz.prog 47 #[.string ⟨t.toArray⟩] w fun e w' => e = .returned (.bool (isPl t)) ∧ Below w.heap.size w w') := Lib.hid (isPlain_c t w hW.forms hW.tabs (by omega))
  have C2 : Hid (∀ W, Below w.heap.size w W → Calls Tryz.prog 85 #[.string ⟨t.toArray⟩] W fun e w' => e = .returned (.bool (resB t)) ∧ Below W.heap.size W w') := Lib.hid fun W hb => miscReserved_c t W (hW.below hb).fold
  have C3 : Hid (∀ W, Below w.heap.size w W → Calls Tryz.prog 45 #[.string ⟨d.toArray⟩, .string ⟨#[63, 62]⟩] W fun e w' => e = .returned (.bool (Lib.contains d [63, 62])) ∧ W = w') := Lib.hid fun W hb => contains_c d [63, 62] W (hW.below hb).maxl (by omega)
  clear hW
  by_cases h1 : isPl t = false
  · rw [putPi_bad t d (.inl h1)]
    rw [h1] at C1
    clear h1 C2 C3
    go_enter Tryz.func50, Tryz.ntmps50
    go_wp2_with fail
    refine (C1.out).mono ?_
    rintro e w1 ⟨rfl, hb⟩
    have B1 := Lib.hid hb
    clear hb
    go_wp2
    go_ret2
    exact ⟨rfl, B1.out⟩
  · have h1' : isPl t = true := by simpa using h1
    rw [h1'] at C1
    by_cases h2 : resB t = true
    · rw [putPi_bad t d (.inr (.inl h2))]
      rw [h2] at C2
      clear h1 h1' h2 C3
      go_enter Tryz.func50, Tryz.ntmps50
      go_wp2_with fail
      refine (C1.out).mono ?_
      rintro e w1 ⟨rfl, hb⟩
      have B1 := Lib.hid hb
      clear hb
      go_wp2_with fail
      refine (C2.out _ B1.out).mono ?_
      rintro e w2 ⟨rfl, hb⟩
      have B2 := Lib.hid (B1.out.trans (hb.mono B1.out.size))
      clear hb
      go_wp2
      go_ret2
      exact ⟨rfl, B2.out⟩
    · have h2' := bfalse h2
      rw [h2'] at C2
      by_cases h3 : Lib.contains d [63, 62] = true
      · rw [putPi_bad t d (.inr (.inr (.inl h3)))]
        rw [h3] at C3
        clear h1 h1' h2 h2' h3
        go_enter Tryz.func50, Tryz.ntmps50
        go_wp2_with fail
        refine (C1.out).mono ?_
        rintro e w1 ⟨rfl, hb⟩
        have B1 := Lib.hid hb
        clear hb
        go_wp2_with fail
        refine (C2.out _ B1.out).mono ?_
        rintro e w2 ⟨rfl, hb⟩
        have B2 := Lib.hid (B1.out.trans (hb.mono B1.out.size))
        clear hb
        go_wp2_with fail
        refine (C3.out _ B2.out).mono ?_
        rintro e wq ⟨rfl, rfl⟩
        go_wp2
        go_ret2
        exact ⟨rfl, B2.out⟩
      · have h3' := bfalse h3
        rw [h3'] at C3
        have ct1 : ∀ W, (Op.stringOp .add ⟨#[60, 63]⟩ ⟨t.toArray⟩).run Tryz.prog W = .ok (.string ⟨([60, 63] ++ t).toArray⟩) W := fun W => run_sop (w := W) [60, 63] t (by simp; omega)
        cases d with
        | nil =>
          have ct2 : ∀ W, (Op.stringOp .add ⟨([60, 63] ++ t).toArray⟩ ⟨#[]⟩).run Tryz.prog W = .ok (.string ⟨([60, 63] ++ t ++ []).toArray⟩) W := fun W => run_sop (w := W) ([60, 63] ++ t) [] (by simp; omega)
          have ct3 : ∀ W, (Op.stringOp .add ⟨([60, 63] ++ t ++ []).toArray⟩ ⟨#[63, 62]⟩).run Tryz.prog W = .ok (.string ⟨([60, 63] ++ t ++ [] ++ [63, 62]).toArray⟩) W := fun W => run_sop (w := W) ([60, 63] ++ t ++ []) [63, 62] (by simp; omega)
          by_cases hl : 1024 < t.length
          · rw [putPi_long t [] h1' h2' h3' rfl hl]
            have hl' : (1024 : Int) < (t.length : Int) := by omega
            clear h1 h1' h2 h2' h3 h3' hl
            go_enter Tryz.func50, Tryz.ntmps50
            go_wp2_with fail
            refine (C1.out).mono ?_
            rintro e w1 ⟨rfl, hb⟩
            have B1 := Lib.hid hb
            clear hb
            go_wp2_with fail
            refine (C2.out _ B1.out).mono ?_
            rintro e w2 ⟨rfl, hb⟩
            have B2 := Lib.hid (B1.out.trans (hb.mono B1.out.size))
            clear hb
            go_wp2_with fail
            refine (C3.out _ B2.out).mono ?_
            rintro e wq ⟨rfl, rfl⟩
            go_wp2
            go_ret2
            exact ⟨rfl, B2.out⟩
          · rw [putPi_ok t [] h1' h2' h3' rfl hl]
            have hl' : ¬ (1024 : Int) < (t.length : Int) := by omega
            clear h1 h1' h2 h2' h3 h3' hl
            unfold dataOf out2V
            generalize [60, 63] ++ t ++ [] ++ [63, 62] = r3 at *
            generalize [60, 63] ++ t ++ [] = r2 at *
            generalize [60, 63] ++ t = r1 at *
            go_enter Tryz.func50, Tryz.ntmps50
            go_wp2_with fail
            refine (C1.out).mono ?_
            rintro e w1 ⟨rfl, hb⟩
            have B1 := Lib.hid hb
            clear hb
            go_wp2_with fail
            refine (C2.out _ B1.out).mono ?_
            rintro e w2 ⟨rfl, hb⟩
            have B2 := Lib.hid (B1.out.trans (hb.mono B1.out.size))
            clear hb
            go_wp2_with fail
            refine (C3.out _ B2.out).mono ?_
            rintro e wq ⟨rfl, rfl⟩
            go_wp2
            go_ret2
            exact ⟨rfl, B2.out⟩
        | cons c d =>
          have hix : ∀ W, (Instr.index 9 (.string ⟨(c :: d).toArray⟩) (.int .i64 0)).run Tryz.prog W = .ok (.int .u8 (c.toNat : Int)) W := fun W => run_strIndex (c :: d) 0 (by simp) W
          have CB : Hid (∀ W, Calls Tryz.prog 75 #[.int .i64 (c.toNat : Int)] W fun e w' => e = .returned (.bool (isBl c)) ∧ W = w') := Lib.hid fun W => blank_c _ W
          have c0 : (0 : Int) ≤ (c.toNat : Int) := by omega
          have c1 : (c.toNat : Int) ≤ 255 := by have := c.toNat_lt; omega
          have ct0 : ∀ W, (Op.stringOp .add ⟨#[32]⟩ ⟨(c :: d).toArray⟩).run Tryz.prog W = .ok (.string ⟨(32 :: c :: d).toArray⟩) W := fun W => run_sop (w := W) [32] (c :: d) (by simp at hd ⊢; omega)
          have ct2 : ∀ W, (Op.stringOp .add ⟨([60, 63] ++ t).toArray⟩ ⟨(32 :: c :: d).toArray⟩).run Tryz.prog W = .ok (.string ⟨([60, 63] ++ t ++ 32 :: c :: d).toArray⟩) W := fun W => run_sop (w := W) ([60, 63] ++ t) (32 :: c :: d) (by simp at hd ⊢; omega)
          have ct3 : ∀ W, (Op.stringOp .add ⟨([60, 63] ++ t ++ 32 :: c :: d).toArray⟩ ⟨#[63, 62]⟩).run Tryz.prog W = .ok (.string ⟨([60, 63] ++ t ++ 32 :: c :: d ++ [63, 62]).toArray⟩) W := fun W => run_sop (w := W) ([60, 63] ++ t ++ 32 :: c :: d) [63, 62] (by simp at hd ⊢; omega)
          have hne : (c :: d).isEmpty = false := rfl
          have hl1 : 0 < (c :: d).length := by simp
          cases hbl : isBl c with
          | true =>
            rw [putPi_bad t (c :: d) (.inr (.inr (.inr hbl)))]
            rw [hbl] at CB
            clear h1 h1' h2 h2' h3 h3' hbl ct0 ct1 ct2 ct3
            generalize hD : c :: d = D at *
            clear hD
            generalize (c.toNat : Int) = cn at *
            by_cases hl : 1024 < t.length
            · have hl' : (1024 : Int) < (t.length : Int) := by omega
              clear hl
              go_enter Tryz.func50, Tryz.ntmps50
              go_wp2_with fail
              refine (C1.out).mono ?_
              rintro e w1 ⟨rfl, hb⟩
              have B1 := Lib.hid hb
              clear hb
              go_wp2_with fail
              refine (C2.out _ B1.out).mono ?_
              rintro e w2 ⟨rfl, hb⟩
              have B2 := Lib.hid (B1.out.trans (hb.mono B1.out.size))
              clear hb
              go_wp2_with fail
              refine (C3.out _ B2.out).mono ?_
              rintro e wq ⟨rfl, rfl⟩
              go_wp2_with fail
              refine (CB.out _).mono ?_
              rintro e wq ⟨rfl, rfl⟩
              go_wp2
              go_ret2
              exact ⟨rfl, B2.out⟩
            · have hl' : ¬ (1024 : Int) < (t.length : Int) := by omega
              clear hl
              go_enter Tryz.func50, Tryz.ntmps50
              go_wp2_with fail
              refine (C1.out).mono ?_
              rintro e w1 ⟨rfl, hb⟩
              have B1 := Lib.hid hb
              clear hb
              go_wp2_with fail
              refine (C2.out _ B1.out).mono ?_
              rintro e w2 ⟨rfl, hb⟩
              have B2 := Lib.hid (B1.out.trans (hb.mono B1.out.size))
              clear hb
              go_wp2_with fail
              refine (C3.out _ B2.out).mono ?_
              rintro e wq ⟨rfl, rfl⟩
              go_wp2_with fail
              refine (CB.out _).mono ?_
              rintro e wq ⟨rfl, rfl⟩
              go_wp2_with fail
              refine (CB.out _).mono ?_
              rintro e wq ⟨rfl, rfl⟩
              go_wp2
              go_ret2
              exact ⟨rfl, B2.out⟩
          | false =>
            rw [hbl] at CB
            by_cases hl : 1024 < t.length
            · rw [putPi_long t (c :: d) h1' h2' h3' hbl hl]
              have hl' : (1024 : Int) < (t.length : Int) := by omega
              clear h1 h1' h2 h2' h3 h3' hbl ct0 ct1 ct2 ct3 hl
              generalize hD : c :: d = D at *
              clear hD
              generalize (c.toNat : Int) = cn at *
              go_enter Tryz.func50, Tryz.ntmps50
              go_wp2_with fail
              refine (C1.out).mono ?_
              rintro e w1 ⟨rfl, hb⟩
              have B1 := Lib.hid hb
              clear hb
              go_wp2_with fail
              refine (C2.out _ B1.out).mono ?_
              rintro e w2 ⟨rfl, hb⟩
              have B2 := Lib.hid (B1.out.trans (hb.mono B1.out.size))
              clear hb
              go_wp2_with fail
              refine (C3.out _ B2.out).mono ?_
              rintro e wq ⟨rfl, rfl⟩
              go_wp2_with fail
              refine (CB.out _).mono ?_
              rintro e wq ⟨rfl, rfl⟩
              go_wp2
              go_ret2
              exact ⟨rfl, B2.out⟩
            · rw [putPi_ok t (c :: d) h1' h2' h3' hbl hl]
              have hl' : ¬ (1024 : Int) < (t.length : Int) := by omega
              clear h1 h1' h2 h2' h3 h3' hbl hl
              unfold dataOf out2V
              generalize [60, 63] ++ t ++ 32 :: c :: d ++ [63, 62] = r3 at *
              generalize [60, 63] ++ t ++ 32 :: c :: d = r2 at *
              generalize [60, 63] ++ t = r1 at *
              generalize hE : 32 :: c :: d = E at *
              generalize hD : c :: d = D at *
              clear hD hE
              generalize (c.toNat : Int) = cn at *
              go_enter Tryz.func50, Tryz.ntmps50
              go_wp2_with fail
              refine (C1.out).mono ?_
              rintro e w1 ⟨rfl, hb⟩
              have B1 := Lib.hid hb
              clear hb
              go_wp2_with fail
              refine (C2.out _ B1.out).mono ?_
              rintro e w2 ⟨rfl, hb⟩
              have B2 := Lib.hid (B1.out.trans (hb.mono B1.out.size))
              clear hb
              go_wp2_with fail
              refine (C3.out _ B2.out).mono ?_
              rintro e wq ⟨rfl, rfl⟩
              go_wp2_with fail
              refine (CB.out _).mono ?_
              rintro e wq ⟨rfl, rfl⟩
              go_wp2
              go_ret2
              exact ⟨rfl, B2.out⟩
end Go.Proofs.YtmclngahdklfkaaGreatDoor
