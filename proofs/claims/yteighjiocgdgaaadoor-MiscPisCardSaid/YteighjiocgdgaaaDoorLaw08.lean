/- Statements of chapter 8. -/
import Derived.Test.YteighjiocgdgaaaDoorRows
import Derived.WalkKit
import Derived.ProofKit
import Derived.OpenShut
import Derived.ShutString
import Derived.ChangeOld
import Derived.Below
import Derived.BigQuiet
import Derived.Deep.QuietTactic
import Derived.Lib.Hide
import Derived.Deep.RegionHeld3
import Derived.Lib.SlBytesConst
import Derived.Laws.CopyOwn
import Derived.Laws.CopyRow
import Derived.Lib.Bytes
import Derived.Deep.LoopGhost
import Derived.Deep.DeepFit
import Derived.Deep.DeepMust
import Derived.WalkSpells
import Derived.WalkLawsBesides
import Derived.Laws.EntriesVeiled
import Derived.Laws.Rows
import Derived.Lib.Fold
import Derived.Test.YteighjiocgdgaaaDoorBase
import Derived.Test.YteighjiocgdgaaaDoorShelf
import Derived.Test.YteighjiocgdgaaaDoorCharPlain
import Derived.Test.YteighjiocgdgaaaDoorUtf1
import Derived.Test.YteighjiocgdgaaaDoorUtf2
import Derived.Test.YteighjiocgdgaaaDoorUtf3
import Derived.Test.YteighjiocgdgaaaDoorChars1
import Derived.Test.YteighjiocgdgaaaDoorName1
import Derived.Test.YteighjiocgdgaaaDoorName2
import Derived.Test.YteighjiocgdgaaaDoorName3
import Derived.Test.YteighjiocgdgaaaDoorBuild
import Derived.Test.YteighjiocgdgaaaDoorEsc
import Derived.Test.YteighjiocgdgaaaDoorStr
import Derived.Test.YteighjiocgdgaaaDoorCref1
import Derived.Test.YteighjiocgdgaaaDoorPub
import Derived.Test.YteighjiocgdgaaaDoorBlank
import Derived.Test.YteighjiocgdgaaaDoorLibB
import Derived.Test.YteighjiocgdgaaaDoorMiscP
import Derived.Test.YteighjiocgdgaaaDoorMiscP2
import Derived.Test.YteighjiocgdgaaaDoorMisc1
import Derived.Test.YteighjiocgdgaaaDoorMisc2
import Derived.Test.YteighjiocgdgaaaDoorMisc3
import Derived.Test.YteighjiocgdgaaaDoorMisc4
import Derived.Test.YteighjiocgdgaaaDoorMisc5
import Derived.Test.YteighjiocgdgaaaDoorMisc6
import Derived.Test.YteighjiocgdgaaaDoorMisc7
namespace Go.Proofs.YteighjiocgdgaaaDoor
open Go.ChangeShapes Go.WideShapes Go.ChangeAt Go.RowKit
set_option linter.unusedVariables false
set_option maxRecDepth 100000 in
set_option maxHeartbeats 4000000 in
theorem reserved_len (s : List UInt8) (w : World) (hs : s.length ≠ 3) : Calls Tryd.prog 47 #[.string ⟨s.toArray⟩] w fun e w' => e = .returned (.bool false) ∧ w = w' := by
  have hl : ((s.length : Int) == 3) = false := by simp; omega
  go_enter Tryd.func47, Tryd.ntmps47
  go_wp2
  go_ret
  exact ⟨rfl, rfl⟩
/-- What is asked of the world. -/
structure W8 (w : World) : Prop where
  tabs : TabN w
  forms : Forms w
  maxl : MaxL w
theorem W8.below {w w' : World} (h : W8 w) (hb : Below w.heap.size w w') : W8 w' := ⟨h.tabs.below hb (h.tabs.low h.forms), h.forms.below hb h.forms.lt, h.maxl.below hb h.maxl.lt⟩
set_option maxRecDepth 100000 in
set_option maxHeartbeats 4000000 in
theorem live8_c (w : World) (hW : W8 w) : Calls Tryd.prog 35 #[] w fun e w' => e = .returned (.bool true) ∧ Below w.heap.size w w' := by
  have kc := fun (w : World) (C : Array Value) (n c : Nat) => Lib.run_convert_bytes_const (P := Tryd.prog) w 22 5 C n c Tryd.underlying22 Tryd.underlying5
  have k1 := alloc_const w [60, 33, 45, 45, 97, 45, 45, 62] (8, 9) (by decide)
  have hW1 := hW.below k1.1
  have c1 := miscComment_c _ _ _ _ 0 _ (k1.2.more (by simp)) hW1.maxl (by decide)
  rw [show anyAt commentOut [60, 33, 45, 45, 97, 45, 45, 62] 0 = ([97], 8, 0) by decide +kernel] at c1
  have C1 := Lib.hid c1
  have B1 := Lib.hid k1.1
  clear c1 k1 hW1
  have HW := Lib.hid hW
  clear hW
  have c2 : Hid (∀ W, Below w.heap.size w W → Calls Tryd.prog 40 #[.slice (some ⟨W.heap.size, 0, none⟩) 9 9, .int .i64 0] (W.alloc (.cells #[.int .u8 60, .int .u8 63, .int .u8 112, .int .u8 32, .int .u8 32, .int .u8 120, .int .u8 32, .int .u8 63, .int .u8 62] 5 (9, 10))) fun e w' => e = .returned (out4V ([112], [120, 32], 9, 0)) ∧ Hid (Below w.heap.size w w')) := Lib.hid fun W hb => by
    have k2 := alloc_const W [60, 63, 112, 32, 32, 120, 32, 63, 62] (9, 10) (by decide)
    have hb2 := hb.trans (k2.1.mono hb.size)
    have hW2 := HW.out.below hb2
    have := miscPi_in _ _ _ _ 0 _ (k2.2.more (by simp)) hW2.forms hW2.tabs hW2.maxl (by decide) (by decide) (by
      rw [show (plainOut [60, 63, 112, 32, 32, 120, 32, 63, 62] (0 + 2)).1 = [112] by decide +kernel]
      intro W3 _
      refine (reserved_len [112] W3 (by decide)).mono ?_
      rintro e w' ⟨he, rfl⟩
      exact ⟨by rw [he, show resB [112] = false by decide +kernel], Below.refl _ _⟩)
    rw [show piOut [60, 63, 112, 32, 32, 120, 32, 63, 62] 0 = ([112], [120, 32], 9, 0) by decide +kernel] at this
    exact this.mono fun e w' ⟨he, hb3⟩ => ⟨he, Lib.hid (hb2.trans (hb3.mono hb2.size))⟩
  unfold outV at C1
  unfold out4V at c2
  go_enter Tryd.func35, Tryd.ntmps35
  go_wp2_with fail
  refine (C1.out).mono ?_
  rintro e w1 ⟨rfl, hb⟩
  have B2 := Lib.hid (B1.out.trans (hb.mono B1.out.size))
  clear hb
  go_wp2_with fail
  refine (c2.out _ B2.out).mono ?_
  rintro e w2 ⟨rfl, B3⟩
  clear kc
  go_wp2
  go_ret
  exact ⟨rfl, B3.out⟩
set_option maxRecDepth 100000 in
set_option maxHeartbeats 4000000 in
theorem miscPuts_walk (sb : ByteArray) (w : World) (hW : W8 w) : Calls Tryd.prog 9 #[.string sb] w fun e w' => e = .returned (.bool true) ∧ Below w.heap.size w w' := by
  obtain ⟨s, rfl⟩ : ∃ s : List UInt8, sb = ⟨s.toArray⟩ := ⟨sb.data.toList, by simp⟩
  have LV : Hid (∀ W, Below w.heap.size w W → Calls Tryd.prog 35 #[] W fun e w' => e = .returned (.bool true) ∧ Below W.heap.size W w') := Lib.hid fun W hb => live8_c W (hW.below hb)
  by_cases hn : s.length ≤ 300
  · have hn' : ¬ (300 : Int) < (s.length : Int) := by omega
    have C1 := Lib.hid (miscPutComment_c s w hW.maxl (by omega))
    have C4 : Hid (∀ W, Below w.heap.size w W → Calls Tryd.prog 44 #[.string ⟨s.toArray⟩] W fun e w' => e = .returned (.tuple #[.string ⟨(putCDataOut s).1.toArray⟩, .int .i64 ((putCDataOut s).2 : Int)]) ∧ Below W.heap.size W w') := Lib.hid fun W hb => miscPutCData_c s W (hW.below hb).maxl (by omega)
    have HFD : Hid (∀ (l p : List UInt8), l.length ≤ 1000 → p ≠ [] → p.length ≤ 100 → ∀ W, Below w.heap.size w W → Calls Tryd.prog 43 #[.slice (some ⟨W.heap.size, 0, none⟩) l.length (grownCap W l.length 0 5), .int .i64 0, .string ⟨p.toArray⟩] (Lib.bytesWorld W 5 ⟨l.toArray⟩) fun e w' => e = .returned (.int .i64 (findI l 0 p)) ∧ Hid (Below w.heap.size w w')) := Lib.hid fun l p hl hp hpl W hb => by
      have hb1 := hb.trans ((Lib.bytesWorld_below W 5 ⟨l.toArray⟩).mono hb.size)
      have := refFind_c _ _ _ l 0 p _ _ (byt_new W l (by omega)) hp (by omega) (by omega) (by omega)
      exact this.mono fun e w' ⟨he, hw⟩ => ⟨he, Lib.hid (hw ▸ hb1)⟩
    have HCM : Hid (∀ (l : List UInt8) (k : Nat), l.length ≤ 1000 → ∀ W, Below w.heap.size w W → Calls Tryd.prog 36 #[.slice (some ⟨W.heap.size, 0, none⟩) l.length (grownCap W l.length 0 5), .int .i64 0] (Lib.bytesWorld W 5 ⟨l.toArray⟩) fun e w' => e = .returned (outV (commentOut l 0)) ∧ Hid (Below w.heap.size w w')) := Lib.hid fun l k hl W hb => by
      have hb1 := hb.trans ((Lib.bytesWorld_below W 5 ⟨l.toArray⟩).mono hb.size)
      have := miscComment_c _ _ _ l 0 (Lib.bytesWorld W 5 ⟨l.toArray⟩) ((byt_new W l (by omega)).more (Nat.le_of_eq (Lib.bytesWorld_size _ _ _).symm)) (hW.below hb1).maxl (by omega)
      rw [show anyAt commentOut l 0 = commentOut l 0 from anyAt_in commentOut l 0 (Nat.zero_le _)] at this
      exact this.mono fun e w' ⟨he, hb2⟩ => ⟨he, Lib.hid (hb1.trans (hb2.mono hb1.size))⟩
    have HCD : Hid (∀ (l : List UInt8) (k : Nat), l.length ≤ 1000 → ∀ W, Below w.heap.size w W → Calls Tryd.prog 38 #[.slice (some ⟨W.heap.size, 0, none⟩) l.length (grownCap W l.length 0 5), .int .i64 0] (Lib.bytesWorld W 5 ⟨l.toArray⟩) fun e w' => e = .returned (outV (cdataOut l 0)) ∧ Hid (Below w.heap.size w w')) := Lib.hid fun l k hl W hb => by
      have hb1 := hb.trans ((Lib.bytesWorld_below W 5 ⟨l.toArray⟩).mono hb.size)
      have := miscCData_c _ _ _ l 0 (Lib.bytesWorld W 5 ⟨l.toArray⟩) ((byt_new W l (by omega)).more (Nat.le_of_eq (Lib.bytesWorld_size _ _ _).symm)) (hW.below hb1).maxl (by omega)
      rw [show anyAt cdataOut l 0 = cdataOut l 0 from anyAt_in cdataOut l 0 (Nat.zero_le _)] at this
      exact this.mono fun e w' ⟨he, hb2⟩ => ⟨he, Lib.hid (hb1.trans (hb2.mono hb1.size))⟩
    have C2 := Lib.hid (HFD.out (s ++ [45]) [45, 45] (by simp; omega) (by simp) (by simp))
    have C5 := Lib.hid (HFD.out s [93, 93, 62] (by omega) (by simp) (by simp))
    have cv1 := fun W => run_toBytes W (s ++ [45])
    have cv2 := fun W => run_toBytes W s
    have ct1 : ∀ W, (Op.stringOp .add ⟨s.toArray⟩ ⟨#[45]⟩).run Tryd.prog W = .ok (.string ⟨(s ++ [45]).toArray⟩) W := fun W => run_sop (w := W) s [45] (by simp; omega)
    have hf1 := findI_contains (s ++ [45]) [45, 45]
    have hf2 := findI_contains s [93, 93, 62]
    have HP1 := Lib.hid (put_comment s)
    have HP2 := Lib.hid (put_cdata s)
    clear hW HFD
    cases hm1 : mayComment s <;> cases hm2 : mayCData s
    · have e1 : putCommentOut s = ([], 7) := by unfold putCommentOut; rw [hm1]; rfl
      have e2 : putCDataOut s = ([], 7) := by unfold putCDataOut; rw [hm2]; rfl
      rw [e1] at C1
      rw [e2] at C4
      have f1 :  0 ≤ findI (s ++ [45]) 0 [45, 45] := by rw [hf1]; unfold mayComment at hm1; simpa using hm1
      have f2 :  0 ≤ findI s 0 [93, 93, 62] := by rw [hf2]; unfold mayCData at hm2; simpa using hm2
      clear e1 e2 hm1 hm2 hf1 hf2 HCM HCD HP1 HP2
      generalize findI (s ++ [45]) 0 [45, 45] = i1 at *
      generalize findI s 0 [93, 93, 62] = i2 at *
      generalize s ++ [45] = s2 at *
      simp only at C1 C4
      go_enter Tryd.func9, Tryd.ntmps9
      go_wp2_with fail
      refine (C1.out).mono ?_
      rintro e w1 ⟨rfl, hb⟩
      have B1 := Lib.hid hb
      clear hb
      go_wp2_with fail
      refine (C2.out _ B1.out).mono ?_
      rintro e w2 ⟨rfl, B2⟩
      clear cv1
      go_wp2_with fail
      refine (C4.out _ B2.out).mono ?_
      rintro e w4 ⟨rfl, hb⟩
      have B4 := Lib.hid (B2.out.trans (hb.mono B2.out.size))
      clear hb
      go_wp2_with fail
      refine (C5.out _ B4.out).mono ?_
      rintro e w5 ⟨rfl, B5⟩
      clear cv2
      go_wp2_with fail
      refine (LV.out _ B5.out).mono ?_
      rintro e w7 ⟨rfl, hb⟩
      have B7 := Lib.hid (B5.out.trans (hb.mono B5.out.size))
      clear hb
      go_wp2
      go_ret
      exact ⟨rfl, B7.out⟩
    · have e1 : putCommentOut s = ([], 7) := by unfold putCommentOut; rw [hm1]; rfl
      have e2 : putCDataOut s = ([60, 33, 91, 67, 68, 65, 84, 65, 91] ++ s ++ [93, 93, 62], 0) := by unfold putCDataOut; rw [hm2]; rfl
      rw [e1] at C1
      rw [e2] at C4
      have f1 :  0 ≤ findI (s ++ [45]) 0 [45, 45] := by rw [hf1]; unfold mayComment at hm1; simpa using hm1
      have f2 : ¬ 0 ≤ findI s 0 [93, 93, 62] := by rw [hf2]; unfold mayCData at hm2; intro h; rw [h] at hm2; cases hm2
      have hld : ([60, 33, 91, 67, 68, 65, 84, 65, 91] ++ s ++ [93, 93, 62]).length = s.length + 12 := by simp
      have CD := Lib.hid (HCD.out ([60, 33, 91, 67, 68, 65, 84, 65, 91] ++ s ++ [93, 93, 62]) 0 (by omega))
      rw [HP2.out hm2, ← hld] at CD
      have cv4 := fun W => run_toBytes W ([60, 33, 91, 67, 68, 65, 84, 65, 91] ++ s ++ [93, 93, 62])
      have ct4 : ∀ W, (Op.stringOp .add ⟨#[60, 33, 91, 67, 68, 65, 84, 65, 91]⟩ ⟨s.toArray⟩).run Tryd.prog W = .ok (.string ⟨([60, 33, 91, 67, 68, 65, 84, 65, 91] ++ s).toArray⟩) W := fun W => run_sop (w := W) [60, 33, 91, 67, 68, 65, 84, 65, 91] s (by simp; omega)
      have ct5 : ∀ W, (Op.stringOp .add ⟨([60, 33, 91, 67, 68, 65, 84, 65, 91] ++ s).toArray⟩ ⟨#[93, 93, 62]⟩).run Tryd.prog W = .ok (.string ⟨([60, 33, 91, 67, 68, 65, 84, 65, 91] ++ s ++ [93, 93, 62]).toArray⟩) W := fun W => run_sop (w := W) ([60, 33, 91, 67, 68, 65, 84, 65, 91] ++ s) [93, 93, 62] (by simp; omega)
      clear e1 e2 hm1 hm2 hf1 hf2 HCM HCD HP1 HP2 hld
      generalize findI (s ++ [45]) 0 [45, 45] = i1 at *
      generalize findI s 0 [93, 93, 62] = i2 at *
      generalize s ++ [45] = s2 at *
      generalize [60, 33, 91, 67, 68, 65, 84, 65, 91] ++ s ++ [93, 93, 62] = d at *
      generalize [60, 33, 91, 67, 68, 65, 84, 65, 91] ++ s = d2 at *
      unfold outV at CD
      simp only at CD
      simp only at C1 C4
      go_enter Tryd.func9, Tryd.ntmps9
      go_wp2_with fail
      refine (C1.out).mono ?_
      rintro e w1 ⟨rfl, hb⟩
      have B1 := Lib.hid hb
      clear hb
      go_wp2_with fail
      refine (C2.out _ B1.out).mono ?_
      rintro e w2 ⟨rfl, B2⟩
      clear cv1
      go_wp2_with fail
      refine (C4.out _ B2.out).mono ?_
      rintro e w4 ⟨rfl, hb⟩
      have B4 := Lib.hid (B2.out.trans (hb.mono B2.out.size))
      clear hb
      go_wp2_with fail
      refine (C5.out _ B4.out).mono ?_
      rintro e w5 ⟨rfl, B5⟩
      clear cv2
      go_wp2_with fail
      refine (CD.out _ B5.out).mono ?_
      rintro e w6 ⟨rfl, B6⟩
      clear cv4
      go_wp2_with fail
      refine (LV.out _ B6.out).mono ?_
      rintro e w7 ⟨rfl, hb⟩
      have B7 := Lib.hid (B6.out.trans (hb.mono B6.out.size))
      clear hb
      go_wp2
      go_ret
      exact ⟨rfl, B7.out⟩
    · have e1 : putCommentOut s = ([60, 33, 45, 45] ++ s ++ [45, 45, 62], 0) := by unfold putCommentOut; rw [hm1]; rfl
      have e2 : putCDataOut s = ([], 7) := by unfold putCDataOut; rw [hm2]; rfl
      rw [e1] at C1
      rw [e2] at C4
      have f1 : ¬ 0 ≤ findI (s ++ [45]) 0 [45, 45] := by rw [hf1]; unfold mayComment at hm1; intro h; rw [h] at hm1; cases hm1
      have f2 :  0 ≤ findI s 0 [93, 93, 62] := by rw [hf2]; unfold mayCData at hm2; simpa using hm2
      have hlc : ([60, 33, 45, 45] ++ s ++ [45, 45, 62]).length = s.length + 7 := by simp
      have CC := Lib.hid (HCM.out ([60, 33, 45, 45] ++ s ++ [45, 45, 62]) 0 (by omega))
      rw [HP1.out hm1, ← hlc] at CC
      have cv3 := fun W => run_toBytes W ([60, 33, 45, 45] ++ s ++ [45, 45, 62])
      have ct2 : ∀ W, (Op.stringOp .add ⟨#[60, 33, 45, 45]⟩ ⟨s.toArray⟩).run Tryd.prog W = .ok (.string ⟨([60, 33, 45, 45] ++ s).toArray⟩) W := fun W => run_sop (w := W) [60, 33, 45, 45] s (by simp; omega)
      have ct3 : ∀ W, (Op.stringOp .add ⟨([60, 33, 45, 45] ++ s).toArray⟩ ⟨#[45, 45, 62]⟩).run Tryd.prog W = .ok (.string ⟨([60, 33, 45, 45] ++ s ++ [45, 45, 62]).toArray⟩) W := fun W => run_sop (w := W) ([60, 33, 45, 45] ++ s) [45, 45, 62] (by simp; omega)
      clear e1 e2 hm1 hm2 hf1 hf2 HCM HCD HP1 HP2 hlc
      generalize findI (s ++ [45]) 0 [45, 45] = i1 at *
      generalize findI s 0 [93, 93, 62] = i2 at *
      generalize s ++ [45] = s2 at *
      generalize [60, 33, 45, 45] ++ s ++ [45, 45, 62] = c at *
      generalize [60, 33, 45, 45] ++ s = c2 at *
      unfold outV at CC
      simp only at CC
      simp only at C1 C4
      go_enter Tryd.func9, Tryd.ntmps9
      go_wp2_with fail
      refine (C1.out).mono ?_
      rintro e w1 ⟨rfl, hb⟩
      have B1 := Lib.hid hb
      clear hb
      go_wp2_with fail
      refine (C2.out _ B1.out).mono ?_
      rintro e w2 ⟨rfl, B2⟩
      clear cv1
      go_wp2_with fail
      refine (CC.out _ B2.out).mono ?_
      rintro e w3 ⟨rfl, B3⟩
      clear cv3
      go_wp2_with fail
      refine (C4.out _ B3.out).mono ?_
      rintro e w4 ⟨rfl, hb⟩
      have B4 := Lib.hid (B3.out.trans (hb.mono B3.out.size))
      clear hb
      go_wp2_with fail
      refine (C5.out _ B4.out).mono ?_
      rintro e w5 ⟨rfl, B5⟩
      clear cv2
      go_wp2_with fail
      refine (LV.out _ B5.out).mono ?_
      rintro e w7 ⟨rfl, hb⟩
      have B7 := Lib.hid (B5.out.trans (hb.mono B5.out.size))
      clear hb
      go_wp2
      go_ret
      exact ⟨rfl, B7.out⟩
    · have e1 : putCommentOut s = ([60, 33, 45, 45] ++ s ++ [45, 45, 62], 0) := by unfold putCommentOut; rw [hm1]; rfl
      have e2 : putCDataOut s = ([60, 33, 91, 67, 68, 65, 84, 65, 91] ++ s ++ [93, 93, 62], 0) := by unfold putCDataOut; rw [hm2]; rfl
      rw [e1] at C1
      rw [e2] at C4
      have f1 : ¬ 0 ≤ findI (s ++ [45]) 0 [45, 45] := by rw [hf1]; unfold mayComment at hm1; intro h; rw [h] at hm1; cases hm1
      have f2 : ¬ 0 ≤ findI s 0 [93, 93, 62] := by rw [hf2]; unfold mayCData at hm2; intro h; rw [h] at hm2; cases hm2
      have hlc : ([60, 33, 45, 45] ++ s ++ [45, 45, 62]).length = s.length + 7 := by simp
      have CC := Lib.hid (HCM.out ([60, 33, 45, 45] ++ s ++ [45, 45, 62]) 0 (by omega))
      rw [HP1.out hm1, ← hlc] at CC
      have cv3 := fun W => run_toBytes W ([60, 33, 45, 45] ++ s ++ [45, 45, 62])
      have ct2 : ∀ W, (Op.stringOp .add ⟨#[60, 33, 45, 45]⟩ ⟨s.toArray⟩).run Tryd.prog W = .ok (.string ⟨([60, 33, 45, 45] ++ s).toArray⟩) W := fun W => run_sop (w := W) [60, 33, 45, 45] s (by simp; omega)
      have ct3 : ∀ W, (Op.stringOp .add ⟨([60, 33, 45, 45] ++ s).toArray⟩ ⟨#[45, 45, 62]⟩).run Tryd.prog W = .ok (.string ⟨([60, 33, 45, 45] ++ s ++ [45, 45, 62]).toArray⟩) W := fun W => run_sop (w := W) ([60, 33, 45, 45] ++ s) [45, 45, 62] (by simp; omega)
      have hld : ([60, 33, 91, 67, 68, 65, 84, 65, 91] ++ s ++ [93, 93, 62]).length = s.length + 12 := by simp
      have CD := Lib.hid (HCD.out ([60, 33, 91, 67, 68, 65, 84, 65, 91] ++ s ++ [93, 93, 62]) 0 (by omega))
      rw [HP2.out hm2, ← hld] at CD
      have cv4 := fun W => run_toBytes W ([60, 33, 91, 67, 68, 65, 84, 65, 91] ++ s ++ [93, 93, 62])
      have ct4 : ∀ W, (Op.stringOp .add ⟨#[60, 33, 91, 67, 68, 65, 84, 65, 91]⟩ ⟨s.toArray⟩).run Tryd.prog W = .ok (.string ⟨([60, 33, 91, 67, 68, 65, 84, 65, 91] ++ s).toArray⟩) W := fun W => run_sop (w := W) [60, 33, 91, 67, 68, 65, 84, 65, 91] s (by simp; omega)
      have ct5 : ∀ W, (Op.stringOp .add ⟨([60, 33, 91, 67, 68, 65, 84, 65, 91] ++ s).toArray⟩ ⟨#[93, 93, 62]⟩).run Tryd.prog W = .ok (.string ⟨([60, 33, 91, 67, 68, 65, 84, 65, 91] ++ s ++ [93, 93, 62]).toArray⟩) W := fun W => run_sop (w := W) ([60, 33, 91, 67, 68, 65, 84, 65, 91] ++ s) [93, 93, 62] (by simp; omega)
      clear e1 e2 hm1 hm2 hf1 hf2 HCM HCD HP1 HP2 hlc hld
      generalize findI (s ++ [45]) 0 [45, 45] = i1 at *
      generalize findI s 0 [93, 93, 62] = i2 at *
      generalize s ++ [45] = s2 at *
      generalize [60, 33, 45, 45] ++ s ++ [45, 45, 62] = c at *
      generalize [60, 33, 45, 45] ++ s = c2 at *
      generalize [60, 33, 91, 67, 68, 65, 84, 65, 91] ++ s ++ [93, 93, 62] = d at *
      generalize [60, 33, 91, 67, 68, 65, 84, 65, 91] ++ s = d2 at *
      unfold outV at CC
      simp only at CC
      unfold outV at CD
      simp only at CD
      simp only at C1 C4
      go_enter Tryd.func9, Tryd.ntmps9
      go_wp2_with fail
      refine (C1.out).mono ?_
      rintro e w1 ⟨rfl, hb⟩
      have B1 := Lib.hid hb
      clear hb
      go_wp2_with fail
      refine (C2.out _ B1.out).mono ?_
      rintro e w2 ⟨rfl, B2⟩
      clear cv1
      go_wp2_with fail
      refine (CC.out _ B2.out).mono ?_
      rintro e w3 ⟨rfl, B3⟩
      clear cv3
      go_wp2_with fail
      refine (C4.out _ B3.out).mono ?_
      rintro e w4 ⟨rfl, hb⟩
      have B4 := Lib.hid (B3.out.trans (hb.mono B3.out.size))
      clear hb
      go_wp2_with fail
      refine (C5.out _ B4.out).mono ?_
      rintro e w5 ⟨rfl, B5⟩
      clear cv2
      go_wp2_with fail
      refine (CD.out _ B5.out).mono ?_
      rintro e w6 ⟨rfl, B6⟩
      clear cv4
      go_wp2_with fail
      refine (LV.out _ B6.out).mono ?_
      rintro e w7 ⟨rfl, hb⟩
      have B7 := Lib.hid (B6.out.trans (hb.mono B6.out.size))
      clear hb
      go_wp2
      go_ret
      exact ⟨rfl, B7.out⟩
  · have hn' : (300 : Int) < (s.length : Int) := by omega
    clear hW hn
    go_enter Tryd.func9, Tryd.ntmps9
    go_wp2_with fail
    refine (LV.out _ (Below.refl _ _)).mono ?_
    rintro e w1 ⟨rfl, hb⟩
    have B1 := Lib.hid hb
    clear hb
    go_wp2
    go_ret
    exact ⟨rfl, B1.out⟩
end Go.Proofs.YteighjiocgdgaaaDoor
