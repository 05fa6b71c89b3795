/- Whole names. -/
import Derived.Test.YtpblphddpcogcaaDoorRows
import Derived.WalkKit
import Derived.ProofKit
import Derived.OpenShut
import Derived.ShutString
import Derived.ChangeOld
import Derived.Below
import Derived.BigQuiet
import Derived.Deep.QuietTactic
import Derived.Lib.Hide
import Derived.Deep.RegionHeld3
import Derived.Lib.SlBytesConst
import Derived.Laws.CopyOwn
import Derived.Laws.CopyRow
import Derived.Lib.Bytes
import Derived.Deep.LoopGhost
import Derived.Deep.DeepFit
import Derived.Deep.DeepMust
import Derived.WalkSpells
import Derived.WalkLawsBesides
import Derived.Test.YtpblphddpcogcaaDoorBase
import Derived.Test.YtpblphddpcogcaaDoorShelf
import Derived.Test.YtpblphddpcogcaaDoorCharPlain
import Derived.Test.YtpblphddpcogcaaDoorUtf1
import Derived.Test.YtpblphddpcogcaaDoorUtf2
import Derived.Test.YtpblphddpcogcaaDoorUtf3
import Derived.Test.YtpblphddpcogcaaDoorChars1
import Derived.Test.YtpblphddpcogcaaDoorName1
import Derived.Test.YtpblphddpcogcaaDoorName2
import Derived.Test.YtpblphddpcogcaaDoorName3
import Derived.Test.YtpblphddpcogcaaDoorNameA
import Derived.Test.YtpblphddpcogcaaDoorRef1
import Derived.Test.YtpblphddpcogcaaDoorRef7
import Derived.Test.YtpblphddpcogcaaDoorEsc
import Derived.Test.YtpblphddpcogcaaDoorLibB
import Derived.Test.YtpblphddpcogcaaDoorBits
import Derived.Test.YtpblphddpcogcaaDoorPlainP
namespace Go.Proofs.YtpblphddpcogcaaDoor
open Go.ChangeShapes Go.WideShapes Go.ChangeAt Go.RowKit
set_option linter.unusedVariables false
theorem endL_wholeB (f g : Int → Bool) (l : List UInt8) (h : l ≠ []) : wholeB f g l = decide (endL f g l.length l = l.length) := by
  unfold wholeB
  cases l with
  | nil => exact absurd rfl h
  | cons a t => simp
set_option maxRecDepth 100000 in
set_option maxHeartbeats 4000000 in
theorem plainWhole_c (a b : Nat) (s : List UInt8) (w : World) (hF : Forms w) (hm : s.length ≤ 50000) (hf : Says 139 #[.pointer (some ⟨a, 0, none⟩)] w.heap.size w (noColon isStart)) (hg : Says 139 #[.pointer (some ⟨b, 0, none⟩)] w.heap.size w (noColon isMore)) :
    Calls Tryd.prog 79 #[plainsV a b, .string ⟨s.toArray⟩] w fun e w' => e = .returned (.bool (wholeB (noColon isStart) (noColon isMore) s)) ∧ Below w.heap.size w w' := by
  have hb : Below w.heap.size w (w.alloc (.cells #[.func (.func 139) #[] #[.pointer (some ⟨a, 0, none⟩)], .func (.func 139) #[] #[.pointer (some ⟨b, 0, none⟩)]] 122)) := Below.alloc (Below.refl w.heap.size w) (Nat.le_refl _) _
  have HB := Lib.hid hb
  by_cases hs : s = []
  · subst hs
    clear hF hb hf hg
    unfold plainsV
    go_enter Tryd.func79, Tryd.ntmps79
    go_wp2
    go_ret
    exact ⟨rfl, HB.out⟩
  · rw [endL_wholeB _ _ _ hs]
    have hne : s.isEmpty = false := by cases s with
      | nil => exact absurd rfl hs
      | cons a t => rfl
    have hlen : 0 < s.length := by cases s with
      | nil => exact absurd rfl hs
      | cons a t => simp
    have f0 := hp_new w (.cells #[.func (.func 139) #[] #[.pointer (some ⟨a, 0, none⟩)], .func (.func 139) #[] #[.pointer (some ⟨b, 0, none⟩)]] 122)
    have hi : (Tryd.prog.info? 122).map (·.size) = some 2 := by kernel_rfl
    obtain ⟨d, hu⟩ := isStruct_of (P := Tryd.prog) (t := 122) (by kernel_rfl)
    have hld := run_loadVar_row _ _ _ _ _ _ _ f0 hu rfl hi
    have hcv := run_toBytes (w.alloc (.cells #[.func (.func 139) #[] #[.pointer (some ⟨a, 0, none⟩)], .func (.func 139) #[] #[.pointer (some ⟨b, 0, none⟩)]] 122)) s
    have hb1 : Below w.heap.size w (Lib.bytesWorld (w.alloc (.cells #[.func (.func 139) #[] #[.pointer (some ⟨a, 0, none⟩)], .func (.func 139) #[] #[.pointer (some ⟨b, 0, none⟩)]] 122)) 5 ⟨s.toArray⟩) := hb.trans ((Lib.bytesWorld_below _ _ _).mono hb.size)
    have CE := end_c (noColon isStart) (noColon isMore) a b _ _ _ s 0 _ ((byt_new (w.alloc (.cells #[.func (.func 139) #[] #[.pointer (some ⟨a, 0, none⟩)], .func (.func 139) #[] #[.pointer (some ⟨b, 0, none⟩)]] 122)) s (by omega)).more (Nat.le_of_eq (Lib.bytesWorld_size _ _ _).symm)) (hF.below hb1 hF.lt) (by omega) (Nat.zero_le _) ((hf.below hb1).more hb1.size) ((hg.below hb1).more hb1.size)
    rw [List.drop_zero, Nat.zero_add] at CE
    have hsz1 : (w.alloc (.cells #[.func (.func 139) #[] #[.pointer (some ⟨a, 0, none⟩)], .func (.func 139) #[] #[.pointer (some ⟨b, 0, none⟩)]] 122)).heap.size = w.heap.size + 1 := by simp
    rw [hsz1] at CE hcv
    have C1 := Lib.hid CE
    have HB1 := Lib.hid hb1
    have hle := endL_le s.length (noColon isStart) (noColon isMore) s
    clear f0 hu hi hF hb hb1 CE hsz1 hf hg
    unfold plainsV at *
    generalize endL (noColon isStart) (noColon isMore) s.length s = k at *
    go_enter Tryd.func79, Tryd.ntmps79
    go_wp2_with fail
    refine (C1.out).mono ?_
    rintro e w1 ⟨rfl, hb⟩
    have B1 := Lib.hid (HB1.out.trans (hb.mono HB1.out.size))
    clear hb
    by_cases hk : k = s.length
    · have hkt : ((k : Int) == (s.length : Int)) = true := by simp; omega
      have HD : Hid (decide (k = s.length) = true) := Lib.hid (by simpa using hk)
      clear hk
      go_wp2
      go_ret
      rw [HD.out]
      exact ⟨rfl, B1.out⟩
    · have hkt : ((k : Int) == (s.length : Int)) = false := by simp; omega
      have HD : Hid (decide (k = s.length) = false) := Lib.hid (by simpa using hk)
      clear hk
      go_wp2
      go_ret
      rw [HD.out]
      exact ⟨rfl, B1.out⟩
set_option maxRecDepth 100000 in
set_option maxHeartbeats 4000000 in
theorem nameWhole_c (s : List UInt8) (w : World) (hF : Forms w) (hm : s.length ≤ 50000) (hT : TabN w) :
    Calls Tryd.prog 79 #[namesV, .string ⟨s.toArray⟩] w fun e w' => e = .returned (.bool (wholeB isStart isMore s)) ∧ Below w.heap.size w w' := by
  have hb : Below w.heap.size w (w.alloc (.cells #[.func (.func 99) #[] #[], .func (.func 100) #[] #[]] 122)) := Below.alloc (Below.refl w.heap.size w) (Nat.le_refl _) _
  have HB := Lib.hid hb
  by_cases hs : s = []
  · subst hs
    clear hF hb hT
    unfold namesV
    go_enter Tryd.func79, Tryd.ntmps79
    go_wp2
    go_ret
    exact ⟨rfl, HB.out⟩
  · rw [endL_wholeB _ _ _ hs]
    have hne : s.isEmpty = false := by cases s with
      | nil => exact absurd rfl hs
      | cons a t => rfl
    have hlen : 0 < s.length := by cases s with
      | nil => exact absurd rfl hs
      | cons a t => simp
    have f0 := hp_new w (.cells #[.func (.func 99) #[] #[], .func (.func 100) #[] #[]] 122)
    have hi : (Tryd.prog.info? 122).map (·.size) = some 2 := by kernel_rfl
    obtain ⟨d, hu⟩ := isStruct_of (P := Tryd.prog) (t := 122) (by kernel_rfl)
    have hld := run_loadVar_row _ _ _ _ _ _ _ f0 hu rfl hi
    have hcv := run_toBytes (w.alloc (.cells #[.func (.func 99) #[] #[], .func (.func 100) #[] #[]] 122)) s
    have hb1 : Below w.heap.size w (Lib.bytesWorld (w.alloc (.cells #[.func (.func 99) #[] #[], .func (.func 100) #[] #[]] 122)) 5 ⟨s.toArray⟩) := hb.trans ((Lib.bytesWorld_below _ _ _).mono hb.size)
    have CE := endA_c _ _ _ s 0 _ ((byt_new (w.alloc (.cells #[.func (.func 99) #[] #[], .func (.func 100) #[] #[]] 122)) s (by omega)).more (Nat.le_of_eq (Lib.bytesWorld_size _ _ _).symm)) (hF.below hb1 hF.lt) (by omega) (Nat.zero_le _) (hT.below hb1 (hT.low hF))
    rw [List.drop_zero, Nat.zero_add] at CE
    have hsz1 : (w.alloc (.cells #[.func (.func 99) #[] #[], .func (.func 100) #[] #[]] 122)).heap.size = w.heap.size + 1 := by simp
    rw [hsz1] at CE hcv
    have C1 := Lib.hid CE
    have HB1 := Lib.hid hb1
    have hle := endL_le s.length isStart isMore s
    clear f0 hu hi hF hb hb1 CE hsz1 hT
    unfold namesV at *
    generalize endL isStart isMore s.length s = k at *
    go_enter Tryd.func79, Tryd.ntmps79
    go_wp2_with fail
    refine (C1.out).mono ?_
    rintro e w1 ⟨rfl, hb⟩
    have B1 := Lib.hid (HB1.out.trans (hb.mono HB1.out.size))
    clear hb
    by_cases hk : k = s.length
    · have hkt : ((k : Int) == (s.length : Int)) = true := by simp; omega
      have HD : Hid (decide (k = s.length) = true) := Lib.hid (by simpa using hk)
      clear hk
      go_wp2
      go_ret
      rw [HD.out]
      exact ⟨rfl, B1.out⟩
    · have hkt : ((k : Int) == (s.length : Int)) = false := by simp; omega
      have HD : Hid (decide (k = s.length) = false) := Lib.hid (by simpa using hk)
      clear hk
      go_wp2
      go_ret
      rw [HD.out]
      exact ⟨rfl, B1.out⟩
set_option maxRecDepth 100000 in
set_option maxHeartbeats 4000000 in
theorem isName_c (s : List UInt8) (w : World) (hF : Forms w) (hT : TabN w) (hm : s.length ≤ 50000) :
    Calls Tryd.prog 55 #[.string ⟨s.toArray⟩] w fun e w' => e = .returned (.bool (wholeB isStart isMore s)) ∧ Below w.heap.size w w' := by
  have hp := Lib.hid (names_c w)
  have CW : Hid (∀ W, Below w.heap.size w W → Calls Tryd.prog 79 #[namesV, .string ⟨s.toArray⟩] W fun e w' => e = .returned (.bool (wholeB isStart isMore s)) ∧ Below W.heap.size W w') := Lib.hid fun W hb => nameWhole_c s W (hF.below hb hF.lt) hm (hT.below hb (hT.low hF))
  clear hF hT hm
  go_enter Tryd.func55, Tryd.ntmps55
  go_wp2_with fail
  refine (hp.out).mono ?_
  rintro e w1 ⟨rfl, hb⟩
  have B1 := Lib.hid hb
  clear hb
  go_wp2_with fail
  refine (CW.out _ B1.out).mono ?_
  rintro e w2 ⟨rfl, hb⟩
  have B2 := Lib.hid (B1.out.trans (hb.mono B1.out.size))
  clear hb
  go_wp2
  go_ret
  exact ⟨rfl, B2.out⟩
theorem okName_eq (pl : Bool) (f : Int → Bool) : okName pl f = if pl then noColon f else f := by
  funext r
  cases pl <;> simp [okName]
set_option maxRecDepth 100000 in
set_option maxHeartbeats 4000000 in
theorem refIs_c5 (pl : Bool) (s : List UInt8) (w : World) (hm : s.length ≤ 50000) :
    Calls Tryd.prog 33 #[.string ⟨s.toArray⟩, .bool pl] w fun e w' => e = .returned (.bool (wholeB (okName pl isStart) (okName pl isMore) s)) ∧ Below w.heap.size w w' := by
  by_cases hs : s = []
  · subst hs
    go_enter Tryd.func33, Tryd.ntmps33
    go_wp2
    go_ret
    exact ⟨rfl, Below.refl _ _⟩
  · rw [endL_wholeB _ _ _ hs]
    have hne : s.isEmpty = false := by cases s with
      | nil => exact absurd rfl hs
      | cons a t => rfl
    have hlen : 0 < s.length := by cases s with
      | nil => exact absurd rfl hs
      | cons a t => simp
    have hcv := run_toBytes w s
    have hb1 := Lib.bytesWorld_below w 5 ⟨s.toArray⟩
    have CE := refEnd_c pl _ _ _ s 0 _ ((byt_new w s (by omega)).more (Nat.le_of_eq (Lib.bytesWorld_size _ _ _).symm)) hm (Nat.zero_le _)
    rw [List.drop_zero, Nat.zero_add] at CE
    have C1 := Lib.hid CE
    have HB1 := Lib.hid hb1
    clear hb1 CE
    generalize endL (okName pl isStart) (okName pl isMore) s.length s = k at *
    go_enter Tryd.func33, Tryd.ntmps33
    go_wp2_with fail
    refine (C1.out).mono ?_
    rintro e w1 ⟨rfl, hb⟩
    have B1 := Lib.hid (HB1.out.trans (hb.mono HB1.out.size))
    clear hb
    by_cases hk : k = s.length
    · have hkt : ((k : Int) == (s.length : Int)) = true := by simp; omega
      have HD : Hid (decide (k = s.length) = true) := Lib.hid (by simpa using hk)
      clear hk
      go_wp2
      go_ret
      rw [HD.out]
      exact ⟨rfl, B1.out⟩
    · have hkt : ((k : Int) == (s.length : Int)) = false := by simp; omega
      have HD : Hid (decide (k = s.length) = false) := Lib.hid (by simpa using hk)
      clear hk
      go_wp2
      go_ret
      rw [HD.out]
      exact ⟨rfl, B1.out⟩
end Go.Proofs.YtpblphddpcogcaaDoor
