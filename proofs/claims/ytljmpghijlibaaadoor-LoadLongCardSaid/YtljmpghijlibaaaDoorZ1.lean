/- Several texts of ours in one: Ld1, Ld2, Ld3, Ld4, Ld5. -/
import Derived.Test.YtljmpghijlibaaaDoorRows
import Derived.WalkKit
import Derived.ProofKit
import Derived.OpenShut
import Derived.ShutString
import Derived.ChangeOld
import Derived.Below
import Derived.BigQuiet
import Derived.Deep.QuietTactic
import Derived.Lib.Hide
import Derived.Deep.RegionHeld3
import Derived.Lib.SlBytesConst
import Derived.Laws.CopyOwn
import Derived.Laws.CopyRow
import Derived.Lib.Bytes
import Derived.Deep.LoopGhost
import Derived.Deep.DeepFit
import Derived.Deep.DeepMust
import Derived.WalkSpells
import Derived.WalkLawsBesides
import Derived.Laws.EntriesVeiled
import Derived.Laws.Rows
import Derived.LoopN
import Derived.Test.YtljmpghijlibaaaDoorShelf
import Derived.Test.YtljmpghijlibaaaDoorBase
import Derived.Test.YtljmpghijlibaaaDoorCharPlain
import Derived.Test.YtljmpghijlibaaaDoorStr
import Derived.Test.YtljmpghijlibaaaDoorChars1
import Derived.Test.YtljmpghijlibaaaDoorUtf1
import Derived.Test.YtljmpghijlibaaaDoorUtf2
import Derived.Test.YtljmpghijlibaaaDoorUtf3
import Derived.Test.YtljmpghijlibaaaDoorName1
import Derived.Test.YtljmpghijlibaaaDoorName2
import Derived.Test.YtljmpghijlibaaaDoorName3
import Derived.Test.YtljmpghijlibaaaDoorCref1
import Derived.Test.YtljmpghijlibaaaDoorPlainP
import Derived.Test.YtljmpghijlibaaaDoorY2
import Derived.Test.YtljmpghijlibaaaDoorY3
import Derived.Test.YtljmpghijlibaaaDoorPfx
import Derived.Test.YtljmpghijlibaaaDoorBits
import Derived.Test.YtljmpghijlibaaaDoorRef1
import Derived.Test.YtljmpghijlibaaaDoorRef3
import Derived.Test.YtljmpghijlibaaaDoorPub
import Derived.Test.YtljmpghijlibaaaDoorRun
import Derived.Test.YtljmpghijlibaaaDoorRunU
import Derived.Test.YtljmpghijlibaaaDoorRunV
import Derived.Test.YtljmpghijlibaaaDoorEv2
import Derived.Test.YtljmpghijlibaaaDoorEv3
import Derived.Test.YtljmpghijlibaaaDoorEolP
import Derived.Test.YtljmpghijlibaaaDoorEolN
import Derived.Test.YtljmpghijlibaaaDoorNrmP
import Derived.Test.YtljmpghijlibaaaDoorLdP
import Derived.Test.YtljmpghijlibaaaDoorBlank
import Derived.Test.YtljmpghijlibaaaDoorLibB
import Derived.Test.YtljmpghijlibaaaDoorFold
import Derived.Test.YtljmpghijlibaaaDoorX1
import Derived.Test.YtljmpghijlibaaaDoorX5
import Derived.Test.YtljmpghijlibaaaDoorMiscP
import Derived.Test.YtljmpghijlibaaaDoorXdI
import Derived.Test.YtljmpghijlibaaaDoorXdJ
namespace Go.Proofs.YtljmpghijlibaaaDoor
open Go.ChangeShapes Go.WideShapes Go.ChangeAt Go.RowKit
set_option linter.unusedVariables false
set_option maxRecDepth 100000 in
set_option maxHeartbeats 4000000 in
theorem ldMark_c (A : Option Addr) (n cap : Nat) (l : List UInt8) (w : World) (h : Byt w w.heap.size A n cap l) :
    Calls Tryd.prog 23 #[.slice A n cap] w fun e w' => e = .returned (.bool (markB l)) ∧ Below w.heap.size w w' := by
  have kc := fun (w : World) (C : Array Value) (n c : Nat) => Lib.run_convert_bytes_const (P := Tryd.prog) w 35 5 C n c Tryd.underlying35 Tryd.underlying5
  have k1 := alloc_const w [239, 187, 191] (3, 4) (by decide)
  have HB := Lib.hid k1.1
  have CP : Hid (Calls Tryd.prog 53 #[.slice A n cap, .slice (some ⟨w.heap.size, 0, none⟩) 3 3] (w.alloc (.cells #[.int .u8 239, .int .u8 187, .int .u8 191] 5 (3, 4))) fun e w' => e = .returned (.bool (markB l)) ∧ (w.alloc (.cells #[.int .u8 239, .int .u8 187, .int .u8 191] 5 (3, 4))) = w') := Lib.hid (hasPrefix_c A (some ⟨w.heap.size, 0, none⟩) n cap 3 3 l [239, 187, 191] _ _ _ (h.below k1.1) k1.2)
  clear h k1
  go_enter Tryd.func23, Tryd.ntmps23
  go_wp2_with fail
  refine CP.out.mono ?_
  rintro e w1 ⟨rfl, rfl⟩
  go_wp2
  go_ret
  exact ⟨rfl, HB.out⟩
theorem chk1_c (A : Option Addr) (n cap : Nat) (w : World) : Calls Tryd.prog 100 #[.slice A n cap] w fun e w' => e = .returned (.bool (decide ((n : Int) ≤ 1048576))) ∧ w = w' := by
  go_enter Tryd.func100, Tryd.ntmps100
  go_wp2
  go_ret
  exact ⟨rfl, rfl⟩
set_option maxRecDepth 100000 in
set_option maxHeartbeats 4000000 in
theorem chk2_c (A : Option Addr) (n cap : Nat) (l : List UInt8) (w : World) (h : Byt w w.heap.size A n cap l) (hF : Forms w) (hm : n ≤ 1100000) :
    Calls Tryd.prog 101 #[.slice A n cap] w fun e w' => e = .returned (.bool (runesOut l).2) ∧ Below w.heap.size w w' := by
  have C := Lib.hid (utfCheck_c A n cap l w h hF hm)
  clear h hF hm
  cases hr : (runesOut l).2 with
  | true =>
    rw [hr] at C
    go_enter Tryd.func101, Tryd.ntmps101
    go_wp2_with fail
    refine C.out.mono ?_
    rintro e w1 ⟨⟨z, rfl⟩, hb⟩
    have HB := Lib.hid hb
    clear hb
    go_wp2
    go_ret
    exact ⟨rfl, HB.out⟩
  | false =>
    rw [hr] at C
    go_enter Tryd.func101, Tryd.ntmps101
    go_wp2_with fail
    refine C.out.mono ?_
    rintro e w1 ⟨⟨z, rfl⟩, hb⟩
    have HB := Lib.hid hb
    clear hb
    go_wp2
    go_ret
    exact ⟨rfl, HB.out⟩
set_option maxRecDepth 100000 in
set_option maxHeartbeats 4000000 in
theorem chk3_c (A : Option Addr) (n cap : Nat) (l : List UInt8) (w : World) (h : Byt w w.heap.size A n cap l) (hF : Forms w) (hT : Tabs w) (hm : n ≤ 1100000) :
    Calls Tryd.prog 102 #[.slice A n cap] w fun e w' => e = .returned (.bool (allOut isDoc l)) ∧ Below w.heap.size w w' := by
  have C := Lib.hid (charsAllD_c A n cap l w h hF hT hm)
  clear h hF hT hm
  go_enter Tryd.func102, Tryd.ntmps102
  go_wp2_with fail
  refine (C.out).mono ?_
  rintro e w1 ⟨rfl, hb⟩
  have B1 := Lib.hid hb
  clear hb
  go_wp2
  go_ret
  exact ⟨rfl, B1.out⟩
set_option maxRecDepth 100000 in
set_option maxHeartbeats 4000000 in
theorem checks_c (w : World) : Calls Tryd.prog 76 #[] w fun e w' => e = .returned (.slice (some ⟨w.heap.size, 0, none⟩) 3 3) ∧ w' = w.alloc (.cells #[.func (.func 100) #[] #[], .int .i64 11, .func (.func 101) #[] #[], .int .i64 5, .func (.func 102) #[] #[], .int .i64 6] 105) := by
  go_enter Tryd.func76, Tryd.ntmps76
  go_wp2
  go_ret
  exact ⟨rfl, rfl⟩
set_option maxRecDepth 100000 in
set_option maxHeartbeats 8000000 in
theorem ldWrong_c (A : Option Addr) (n cap : Nat) (l : List UInt8) (w : World) (h : Byt w w.heap.size A n cap l) (hF : Forms w) (hT : Tabs w) (hm : n ≤ 1100000) :
    Calls Tryd.prog 46 #[.slice A n cap] w fun e w' => e = .returned (.int .i64 (wrongL l : Nat)) ∧ Below w.heap.size w w' := by
  have C0 := Lib.hid (checks_c w)
  have hln := h.length
  have C1 : Hid (∀ W, Calls Tryd.prog 100 #[.slice A n cap] W fun e w' => e = .returned (.bool (decide ((n : Int) ≤ 1048576))) ∧ W = w') := Lib.hid fun W => chk1_c A n cap W
  have C2 : Hid (∀ W, Below w.heap.size w W → Calls Tryd.prog 101 #[.slice A n cap] W fun e w' => e = .returned (.bool (runesOut l).2) ∧ Below W.heap.size W w') := Lib.hid fun W hb => chk2_c A n cap l W ((h.below hb).more hb.size) (hF.below hb hF.lt) hm
  have C3 : Hid (∀ W, Below w.heap.size w W → Calls Tryd.prog 102 #[.slice A n cap] W fun e w' => e = .returned (.bool (allOut isDoc l)) ∧ Below W.heap.size W w') := Lib.hid fun W hb => chk3_c A n cap l W ((h.below hb).more hb.size) (hF.below hb hF.lt) (hT.below hb (hT.low hF)) hm
  have HB0 : Hid (Below w.heap.size w (w.alloc (.cells #[.func (.func 100) #[] #[], .int .i64 11, .func (.func 101) #[] #[], .int .i64 5, .func (.func 102) #[] #[], .int .i64 6] 105))) := Lib.hid ((Below.refl _ w).alloc (Nat.le_refl _) _)
  have HCL : Hid (∀ W, Below (w.heap.size + 1) (w.alloc (.cells #[.func (.func 100) #[] #[], .int .i64 11, .func (.func 101) #[] #[], .int .i64 5, .func (.func 102) #[] #[], .int .i64 6] 105)) W → W.heap[w.heap.size]? = some (.cells #[.func (.func 100) #[] #[], .int .i64 11, .func (.func 101) #[] #[], .int .i64 5, .func (.func 102) #[] #[], .int .i64 6] 105)) := Lib.hid fun W hb => (hb.block _ (by omega)).trans (hp_new w _)
  have HX1 : Hid (Below w.heap.size w ((w.alloc (.cells #[.func (.func 100) #[] #[], .int .i64 11, .func (.func 101) #[] #[], .int .i64 5, .func (.func 102) #[] #[], .int .i64 6] 105)).alloc (.cells #[.func (.func 100) #[] #[], .int .i64 11] 105))) := Lib.hid (((Below.refl _ w).alloc (Nat.le_refl _) _).alloc (by simp) _)
  have HX2 : Hid (Below w.heap.size w (((w.alloc (.cells #[.func (.func 100) #[] #[], .int .i64 11, .func (.func 101) #[] #[], .int .i64 5, .func (.func 102) #[] #[], .int .i64 6] 105)).alloc (.cells #[.func (.func 100) #[] #[], .int .i64 11] 105)).alloc (.cells #[.func (.func 101) #[] #[], .int .i64 5] 105))) := Lib.hid ((((Below.refl _ w).alloc (Nat.le_refl _) _).alloc (by simp) _).alloc (by simp; omega) _)
  have HX3 : Hid (Below (w.heap.size + 1) (w.alloc (.cells #[.func (.func 100) #[] #[], .int .i64 11, .func (.func 101) #[] #[], .int .i64 5, .func (.func 102) #[] #[], .int .i64 6] 105)) (((w.alloc (.cells #[.func (.func 100) #[] #[], .int .i64 11, .func (.func 101) #[] #[], .int .i64 5, .func (.func 102) #[] #[], .int .i64 6] 105)).alloc (.cells #[.func (.func 100) #[] #[], .int .i64 11] 105)).alloc (.cells #[.func (.func 101) #[] #[], .int .i64 5] 105))) := Lib.hid (((Below.refl _ _).alloc (by simp) _).alloc (by simp) _)
  clear h hF hT
  unfold wrongL
  by_cases hb : 1048576 < l.length
  · have d1 : decide ((n : Int) ≤ 1048576) = false := by simp; omega
    rw [d1] at C1
    rw [if_pos hb]
    clear d1 hb hm
    go_enter Tryd.func46, Tryd.ntmps46
    go_wp2_with fail
    refine C0.out.mono ?_
    rintro e w1 ⟨rfl, rfl⟩
    go_wp2_with fail
    refine wp_loop_rounds 5 ?_
    rw [rounds_succ]
    go_wp2_with fail
    refine (C1.out _).mono ?_
    rintro e w2 ⟨rfl, rfl⟩
    go_wp2
    go_ret
    exact ⟨rfl, HX1.out⟩
  · have d1 : decide ((n : Int) ≤ 1048576) = true := by simp; omega
    rw [d1] at C1
    rw [if_neg hb]
    clear d1 hb hm
    have C2' := Lib.hid (C2.out _ HX2.out)
    cases hr : (runesOut l).2 with
    | false =>
      rw [hr] at C2'
      rw [if_neg (by simp)]
      go_enter Tryd.func46, Tryd.ntmps46
      go_wp2_with fail
      refine C0.out.mono ?_
      rintro e w1 ⟨rfl, rfl⟩
      go_wp2_with fail
      refine wp_loop_rounds 5 ?_
      rw [rounds_succ]
      go_wp2_with fail
      refine (C1.out _).mono ?_
      rintro e w2 ⟨rfl, rfl⟩
      go_wp2_with fail
      rw [rounds_succ]
      go_wp2_with fail
      refine C2'.out.mono ?_
      rintro e w2 ⟨rfl, hb2⟩
      have HE := Lib.hid (HX2.out.trans (hb2.mono HX2.out.size))
      have y := (hb2.block (w.heap.size + 1 + 1) (by simp)).trans (show (((w.alloc (.cells #[.func (.func 100) #[] #[], .int .i64 11, .func (.func 101) #[] #[], .int .i64 5, .func (.func 102) #[] #[], .int .i64 6] 105)).alloc (.cells #[.func (.func 100) #[] #[], .int .i64 11] 105)).alloc (.cells #[.func (.func 101) #[] #[], .int .i64 5] 105)).heap[w.heap.size + 1 + 1]? = some (.cells #[.func (.func 101) #[] #[], .int .i64 5] 105) by have := hp_new ((w.alloc (.cells #[.func (.func 100) #[] #[], .int .i64 11, .func (.func 101) #[] #[], .int .i64 5, .func (.func 102) #[] #[], .int .i64 6] 105)).alloc (.cells #[.func (.func 100) #[] #[], .int .i64 11] 105)) (.cells #[.func (.func 101) #[] #[], .int .i64 5] 105); simpa using this)
      have y5 : w2.cell? ⟨w.heap.size + 1 + 1, 1, none⟩ = some (.int .i64 5) := by rw [cell_of 1 y]; rfl
      clear y
      clear hb2
      go_wp2
      go_ret
      exact ⟨rfl, HE.out⟩
    | true =>
      rw [hr] at C2'
      rw [if_pos rfl]
      cases ha : allOut isDoc l with
      | false =>
        rw [if_neg (by simp)]
        go_enter Tryd.func46, Tryd.ntmps46
        go_wp2_with fail
        refine C0.out.mono ?_
        rintro e w1 ⟨rfl, rfl⟩
        go_wp2_with fail
        refine wp_loop_rounds 5 ?_
        rw [rounds_succ]
        go_wp2_with fail
        refine (C1.out _).mono ?_
        rintro e w2 ⟨rfl, rfl⟩
        go_wp2_with fail
        rw [rounds_succ]
        go_wp2_with fail
        refine C2'.out.mono ?_
        rintro e w2 ⟨rfl, hb2⟩
        have HE := Lib.hid (HX2.out.trans (hb2.mono HX2.out.size))
        have z := HCL.out w2 ((HX3.out).trans (hb2.mono (by simp)))
        have z4 := cell_of 4 z
        have z5 := cell_of 5 z
        simp at z4 z5
        have hsz2 := HE.out.size
        have C3' := Lib.hid (C3.out (w2.alloc (.cells #[.func (.func 102) #[] #[], .int .i64 6] 105)) (HE.out.alloc hsz2 _))
        have HE3 := Lib.hid (HE.out.alloc hsz2 (.cells #[.func (.func 102) #[] #[], .int .i64 6] 105))
        clear hb2 z
        rw [ha] at C3'
        go_wp2_with fail
        rw [rounds_succ]
        go_wp2_with fail
        refine C3'.out.mono ?_
        rintro e w3 ⟨rfl, hb3⟩
        have HF := Lib.hid (HE3.out.trans (hb3.mono HE3.out.size))
        have y := (hb3.block w2.heap.size (by simp)).trans (hp_new w2 (.cells #[.func (.func 102) #[] #[], .int .i64 6] 105))
        have y6 : w3.cell? ⟨w2.heap.size, 1, none⟩ = some (.int .i64 6) := by rw [cell_of 1 y]; rfl
        clear y
        clear hb3
        go_wp2
        go_ret
        exact ⟨rfl, HF.out⟩
      | true =>
        rw [if_pos rfl]
        go_enter Tryd.func46, Tryd.ntmps46
        go_wp2_with fail
        refine C0.out.mono ?_
        rintro e w1 ⟨rfl, rfl⟩
        go_wp2_with fail
        refine wp_loop_rounds 5 ?_
        rw [rounds_succ]
        go_wp2_with fail
        refine (C1.out _).mono ?_
        rintro e w2 ⟨rfl, rfl⟩
        go_wp2_with fail
        rw [rounds_succ]
        go_wp2_with fail
        refine C2'.out.mono ?_
        rintro e w2 ⟨rfl, hb2⟩
        have HE := Lib.hid (HX2.out.trans (hb2.mono HX2.out.size))
        have z := HCL.out w2 ((HX3.out).trans (hb2.mono (by simp)))
        have z4 := cell_of 4 z
        have z5 := cell_of 5 z
        simp at z4 z5
        have hsz2 := HE.out.size
        have C3' := Lib.hid (C3.out (w2.alloc (.cells #[.func (.func 102) #[] #[], .int .i64 6] 105)) (HE.out.alloc hsz2 _))
        have HE3 := Lib.hid (HE.out.alloc hsz2 (.cells #[.func (.func 102) #[] #[], .int .i64 6] 105))
        clear hb2 z
        rw [ha] at C3'
        go_wp2_with fail
        rw [rounds_succ]
        go_wp2_with fail
        refine C3'.out.mono ?_
        rintro e w3 ⟨rfl, hb3⟩
        have HF := Lib.hid (HE3.out.trans (hb3.mono HE3.out.size))
        clear hb3
        go_wp2_with fail
        rw [rounds_succ]
        go_wp2
        go_ret
        exact ⟨rfl, HF.out⟩
theorem trim_yes (A1 A2 : Option Addr) (n1 c1 n2 c2 : Nat) (l1 l2 : List UInt8) (w : World) (B1 B2 : Nat) (h1 : Byt w B1 A1 n1 c1 l1) (h2 : Byt w B2 A2 n2 c2 l2) (hn : 0 < n2) (hp : l2.isPrefixOf l1 = true) :
    Calls Tryd.prog 48 #[.slice A1 n1 c1, .slice A2 n2 c2] w fun e w' => e = .returned (.slice (cutA A1 c1 n2) (n1 - n2) (c1 - n2)) ∧ w = w' := by
  refine (Tryd.bytes_TrimPrefix_all A1 A2 n1 c1 n2 c2 (nums l1) (nums l2) w (by rw [nums_length, h1.length]) (by rw [nums_length, h2.length]) h1.le h1.bytesIn h2.bytesIn).mono fun e w' ⟨he, hw⟩ => ⟨?_, hw.symm⟩
  have hln : n2 ≤ n1 := by
    have := (List.isPrefixOf_iff_prefix.1 hp).length_le
    rw [h1.length, h2.length] at this
    exact this
  obtain ⟨b, o, rfl, _⟩ := h1.at_ (by have := h1.le; omega)
  rw [he]
  congr 1
  have key : Lib.trimPrefixV (some ⟨b, o, none⟩) n1 c1 (nums l1) (nums l2) = Lib.bytesTrimPrefix b o n1 c1 (nums l1) (nums l2) := by
    cases hy : nums l2 with
    | nil =>
      have : (nums l2).length = 0 := by rw [hy]; rfl
      rw [nums_length, h2.length] at this
      omega
    | cons y ys => rfl
  rw [key]
  unfold Lib.bytesTrimPrefix
  rw [bytesOf_nums, bytesOf_nums, lib_hasPrefix, hp, if_pos rfl, nums_length, h2.length]
  unfold Lib.sliceFrom cutA
  rw [Option.map_some, addr_add]
theorem trim_no (A1 A2 : Option Addr) (n1 c1 n2 c2 : Nat) (l1 l2 : List UInt8) (w : World) (B1 B2 : Nat) (h1 : Byt w B1 A1 n1 c1 l1) (h2 : Byt w B2 A2 n2 c2 l2) (hp : l2.isPrefixOf l1 = false) :
    Calls Tryd.prog 48 #[.slice A1 n1 c1, .slice A2 n2 c2] w fun e w' => e = .returned (.slice A1 n1 c1) ∧ w = w' := by
  refine (Tryd.bytes_TrimPrefix_all A1 A2 n1 c1 n2 c2 (nums l1) (nums l2) w (by rw [nums_length, h1.length]) (by rw [nums_length, h2.length]) h1.le h1.bytesIn h2.bytesIn).mono fun e w' ⟨he, hw⟩ => ⟨?_, hw.symm⟩
  rw [he]
  congr 1
  unfold Lib.trimPrefixV
  split <;> simp [Lib.bytesTrimPrefix, bytesOf_nums, lib_hasPrefix, hp]
/-- bytes.TrimPrefix of the mark. -/
theorem trimMark_c (A A2 : Option Addr) (n cap : Nat) (l : List UInt8) (w : World) (B : Nat) (h : Byt w w.heap.size A n cap l) (h2 : Byt w B A2 3 3 [239, 187, 191]) :
    Calls Tryd.prog 48 #[.slice A n cap, .slice A2 3 3] w fun e w' => (∃ A' m c, e = .returned (.slice A' m c) ∧ Byt w w.heap.size A' m c (bodyL l)) ∧ w = w' := by
  unfold bodyL
  cases hm : markB l with
  | true =>
    have hle : 3 ≤ n := by
      have := (List.isPrefixOf_iff_prefix.1 hm).length_le
      rw [h.length] at this
      simpa using this
    exact (trim_yes A A2 n cap 3 3 l [239, 187, 191] w _ _ h h2 (by omega) hm).mono fun e w' ⟨he, hw⟩ => ⟨⟨_, _, _, he, by rw [if_pos rfl]; exact h.drop hle⟩, hw⟩
  | false => exact (trim_no A A2 n cap 3 3 l [239, 187, 191] w _ _ h h2 hm).mono fun e w' ⟨he, hw⟩ => ⟨⟨_, _, _, he, by rw [if_neg (by simp)]; exact h⟩, hw⟩
/-- What hands back bytes, and an error. -/
def SlP (o : List UInt8 × Nat) (w : World) (e : Ending) (w' : World) : Prop :=
  ∃ A m c, e = .returned (.tuple #[.slice A m c, .int .i64 (o.2 : Int)]) ∧ Byt w' w'.heap.size A m c o.1 ∧ Below w.heap.size w w'
set_option maxRecDepth 100000 in
set_option maxHeartbeats 4000000 in
theorem ldDoc_c (A : Option Addr) (n cap : Nat) (l : List UInt8) (w : World) (h : Byt w w.heap.size A n cap l) (hF : Forms w) (hT : Tabs w) (hm : n ≤ 1100000) :
    Calls Tryd.prog 20 #[.slice A n cap] w (SlP (docL l) w) := by
  have C1 := Lib.hid (ldWrong_c A n cap l w h hF hT hm)
  have hln := h.length
  have HB := Lib.hid h
  clear h hF hT
  by_cases hz : wrongL l = 0
  · have HD : Hid (docL l = (nrm (bodyL l), 0)) := Lib.hid (by unfold docL; rw [if_pos hz])
    rw [hz] at C1
    clear hz
    have kc := fun (w : World) (C : Array Value) (n c : Nat) => Lib.run_convert_bytes_const (P := Tryd.prog) w 35 5 C n c Tryd.underlying35 Tryd.underlying5
    go_enter Tryd.func20, Tryd.ntmps20
    go_wp2_with fail
    refine (C1.out).mono ?_
    rintro e w1 ⟨rfl, hb⟩
    have B1 := Lib.hid hb
    clear hb
    have k1 := alloc_const w1 [239, 187, 191] (3, 4) (by decide)
    have B2 := Lib.hid (B1.out.trans (k1.1.mono B1.out.size))
    have CT := Lib.hid (trimMark_c A (some ⟨w1.heap.size, 0, none⟩) n cap l (w1.alloc (.cells ([239, 187, 191].map bv).toArray 5 (3, 4))) _ ((HB.out.below B2.out).more B2.out.size) k1.2)
    clear k1
    go_wp2_with fail
    refine CT.out.mono ?_
    rintro e w2 ⟨⟨A', m, c, rfl, hby⟩, rfl⟩
    have hbl := body_le l
    have CN := Lib.hid (norm_c A' m c (bodyL l) _ _ hby (Nat.le_refl _) (by have := hby.length; omega))
    clear hby hbl
    go_wp2_with fail
    refine CN.out.mono ?_
    rintro e w3 ⟨A3, m3, rfl, hby3, hb3⟩
    have HE := Lib.hid (And.intro hby3 (B2.out.trans (hb3.mono B2.out.size)))
    clear hby3 hb3
    go_wp2
    go_ret2
    exact ⟨A3, m3, m3, by rw [HD.out]; rfl, by rw [HD.out]; exact HE.out.1, HE.out.2⟩
  · have HD : Hid (docL l = ([], wrongL l)) := Lib.hid (by unfold docL; rw [if_neg hz])
    have hz2 : ((wrongL l : Int) == 0) = false := by simpa using hz
    clear hz
    generalize wrongL l = e0 at *
    go_enter Tryd.func20, Tryd.ntmps20
    go_wp2_with fail
    refine (C1.out).mono ?_
    rintro e w1 ⟨rfl, hb⟩
    have B1 := Lib.hid hb
    clear hb
    go_wp2
    go_ret2
    exact ⟨none, 0, 0, by rw [HD.out]; rfl, by rw [HD.out]; exact Rd.nilR _ _, B1.out⟩
set_option maxRecDepth 100000 in
set_option maxHeartbeats 4000000 in
theorem ldIs_c (A : Option Addr) (n cap : Nat) (l : List UInt8) (w : World) (h : Byt w w.heap.size A n cap l) (hF : Forms w) (hT : Tabs w) (hm : n ≤ 1100000) :
    Calls Tryd.prog 21 #[.slice A n cap] w fun e w' => e = .returned (.bool (decide (wrongL l = 0) && decide (Lib.indexByte l 13 < 0))) ∧ Below w.heap.size w w' := by
  have C1 := Lib.hid (ldWrong_c A n cap l w h hF hT hm)
  have C2 : Hid (∀ W, Below w.heap.size w W → Calls Tryd.prog 49 #[.slice A n cap] W fun e w' => e = .returned (.bool (decide (Lib.indexByte l 13 < 0))) ∧ W = w') := Lib.hid fun W hb => eolIs_c A n cap l W _ (h.below hb)
  clear h hF hT
  by_cases hz : wrongL l = 0
  · rw [hz] at C1
    rw [decide_eq_true hz]
    clear hz
    go_enter Tryd.func21, Tryd.ntmps21
    go_wp2_with fail
    refine (C1.out).mono ?_
    rintro e w1 ⟨rfl, hb⟩
    have B1 := Lib.hid hb
    clear hb
    go_wp2_with fail
    refine (C2.out _ B1.out).mono ?_
    rintro e w2 ⟨rfl, rfl⟩
    go_wp2
    go_ret
    exact ⟨by simp, B1.out⟩
  · have hz2 : ((wrongL l : Int) == 0) = false := by simpa using hz
    rw [decide_eq_false hz]
    clear hz
    generalize wrongL l = e0 at *
    go_enter Tryd.func21, Tryd.ntmps21
    go_wp2_with fail
    refine (C1.out).mono ?_
    rintro e w1 ⟨rfl, hb⟩
    have B1 := Lib.hid hb
    clear hb
    go_wp2
    go_ret
    exact ⟨rfl, B1.out⟩
/-- A text from outside, without what it says of itself. -/
def textL25 (l : List UInt8) : List UInt8 × Nat := if (docL l).2 = 0 then (if (declAt true (docL l).1 0).2.2 = 0 then ((docL l).1.drop (declAt true (docL l).1 0).2.1, 0) else ([], (declAt true (docL l).1 0).2.2)) else ([], (docL l).2)
theorem tail_next (l : List UInt8) (d : DeclL) (i : Nat) (h : (tailOut l d i).2.2 = 0) : (tailOut l d i).2.1 ≤ l.length := by
  unfold tailOut at h ⊢
  split
  · rename_i hp
    rcases pre_len hp with h' | h'
    · cases h'
    · simpa using h'
  · exact Nat.zero_le _
theorem decl_next (l : List UInt8) (h : (declAt true l 0).2.2 = 0) : (declAt true l 0).2.1 ≤ l.length := by
  unfold declAt at h ⊢
  rw [if_neg (by omega)] at h ⊢
  unfold declOut at h ⊢
  split
  · rename_i hx
    rw [if_pos hx] at h
    unfold readDecl at h ⊢
    split
    · exact Nat.zero_le _
    · rename_i v j hp
      simp only [hp] at h
      split
      · exact Nat.zero_le _
      · rename_i hh
        rw [if_neg hh] at h
        unfold readEnc at h ⊢
        split
        · exact Nat.zero_le _
        · rename_i e j2 hp2
          simp only [hp2, if_true] at h ⊢
          split
          · exact Nat.zero_le _
          · rename_i h3
            rw [if_neg h3] at h
            exact tail_next _ _ _ h
  · exact Nat.zero_le _
set_option maxRecDepth 100000 in
set_option maxHeartbeats 8000000 in
theorem ldText_c (A : Option Addr) (n cap : Nat) (l : List UInt8) (w : World) (h : Byt w w.heap.size A n cap l) (hF : Forms w) (hT : Tabs w) (hA : FoldT w) (hm : n ≤ 30000) :
    Calls Tryd.prog 18 #[.slice A n cap] w (SlP (textL25 l) w) := by
  have CD := Lib.hid (ldDoc_c A n cap l w h hF hT (by omega))
  have hln := h.length
  have hdl : (docL l).1.length ≤ 30000 := by
    unfold docL
    split
    · have := nrm_le (bodyL l); have := body_le l; simp only; omega
    · simp
  have HF := Lib.hid (And.intro hA hdl)
  clear h hF hT hA
  by_cases hz : (docL l).2 = 0
  · generalize hd : docL l = d at *
    obtain ⟨t, e0⟩ := d
    dsimp only at hz HF hdl
    subst hz
    by_cases hx : (declAt true t 0).2.2 = 0
    · have HT : Hid (textL25 l = (t.drop (declAt true t 0).2.1, 0)) := Lib.hid (by unfold textL25; rw [hd]; simp only [if_true]; rw [if_pos hx])
      have hnx := decl_next t hx
      have CX : Hid (∀ A m c w1, Byt w1 w1.heap.size A m c t → FoldT w1 → Calls Tryd.prog 43 #[.slice A m c, .int .i64 0] w1 fun e w' => e = .returned (declV (declAt true t 0)) ∧ Below w1.heap.size w1 w') := Lib.hid fun A m c w1 hb hf => xdText_c A m c t 0 w1 hb (by have := hb.length; omega) hf
      clear hd
      generalize declAt true t 0 = o at *
      obtain ⟨⟨o1, o2, o3, o4⟩, nx, oe⟩ := o
      dsimp only at hx hnx HT
      subst hx
      unfold declV DeclL.cells at CX
      dsimp only at CX
      go_enter Tryd.func18, Tryd.ntmps18
      go_wp2_with fail
      refine CD.out.mono ?_
      rintro e w1 ⟨A1, m1, c1, rfl, hby, hb1⟩
      have hml := hby.length
      dsimp only at hby hml
      have HB1 := Lib.hid (And.intro hby hb1)
      have CX' := Lib.hid (CX.out A1 m1 c1 w1 hby (HF.out.1.below hb1 HF.out.1.lt))
      clear hby hb1
      go_wp2_with fail
      refine CX'.out.mono ?_
      rintro e w2 ⟨rfl, hb2⟩
      have hnm : nx ≤ m1 := by omega
      have hnm2 : (nx : Int) ≤ (m1 : Int) := by omega
      have hby3 : Byt (w2.alloc (.cells #[.bool o1, .string ⟨o2.toArray⟩, .string ⟨o3.toArray⟩, .string ⟨o4.toArray⟩] 63)) w1.heap.size A1 m1 c1 t := (HB1.out.1.below hb2).below ((Below.refl _ w2).alloc hb2.size _)
      have hle := hby3.le
      have hrf : ∀ w3 : World, (Instr.slice 35 (.slice A1 m1 c1) (some (.int .i64 (nx : Int))) none none).run Tryd.prog w3 = .ok (.slice (cutA A1 c1 nx) (m1 - nx) (c1 - nx)) w3 := fun w3 => run_from (w := w3) A1 m1 c1 nx hnm
      have CC := Lib.hid (clone_c _ _ _ _ _ _ (hby3.drop hnm) (by omega))
      have HB2 : Hid (Below w.heap.size w (w2.alloc (.cells #[.bool o1, .string ⟨o2.toArray⟩, .string ⟨o3.toArray⟩, .string ⟨o4.toArray⟩] 63))) := Lib.hid ((HB1.out.2.trans (hb2.mono HB1.out.2.size)).alloc (Nat.le_trans HB1.out.2.size hb2.size) _)
      clear hb2 hby3
      go_wp2_with fail
      refine CC.out.mono ?_
      rintro e w4 ⟨A4, c4, rfl, hby4, hb4⟩
      have HE := Lib.hid (And.intro hby4 (HB2.out.trans (hb4.mono HB2.out.size)))
      clear hby4 hb4
      go_wp2
      go_ret2
      exact ⟨A4, _, c4, by rw [HT.out]; rfl, by rw [HT.out]; exact HE.out.1, HE.out.2⟩
    · have HT : Hid (textL25 l = ([], (declAt true t 0).2.2)) := Lib.hid (by unfold textL25; rw [hd]; simp only [if_true]; rw [if_neg hx])
      have CX : Hid (∀ A m c w1, Byt w1 w1.heap.size A m c t → FoldT w1 → Calls Tryd.prog 43 #[.slice A m c, .int .i64 0] w1 fun e w' => e = .returned (declV (declAt true t 0)) ∧ Below w1.heap.size w1 w') := Lib.hid fun A m c w1 hb hf => xdText_c A m c t 0 w1 hb (by have := hb.length; omega) hf
      clear hd
      generalize declAt true t 0 = o at *
      obtain ⟨⟨o1, o2, o3, o4⟩, nx, oe⟩ := o
      dsimp only at hx HT
      have hx2 : ((oe : Int) == 0) = false := by simpa using hx
      unfold declV DeclL.cells at CX
      dsimp only at CX
      go_enter Tryd.func18, Tryd.ntmps18
      go_wp2_with fail
      refine CD.out.mono ?_
      rintro e w1 ⟨A1, m1, c1, rfl, hby, hb1⟩
      have HB1 := Lib.hid (And.intro hby hb1)
      have CX' := Lib.hid (CX.out A1 m1 c1 w1 hby (HF.out.1.below hb1 HF.out.1.lt))
      clear hby hb1
      go_wp2_with fail
      refine CX'.out.mono ?_
      rintro e w2 ⟨rfl, hb2⟩
      have HB2 : Hid (Below w.heap.size w (w2.alloc (.cells #[.bool o1, .string ⟨o2.toArray⟩, .string ⟨o3.toArray⟩, .string ⟨o4.toArray⟩] 63))) := Lib.hid ((HB1.out.2.trans (hb2.mono HB1.out.2.size)).alloc (Nat.le_trans HB1.out.2.size hb2.size) _)
      clear hb2
      go_wp2
      go_ret2
      exact ⟨none, 0, 0, by rw [HT.out]; rfl, by rw [HT.out]; exact Rd.nilR _ _, HB2.out⟩
  · have HT : Hid (textL25 l = ([], (docL l).2)) := Lib.hid (by unfold textL25; rw [if_neg hz])
    generalize docL l = d at *
    obtain ⟨t, e0⟩ := d
    dsimp only at hz HT
    have hz2 : ((e0 : Int) == 0) = false := by simpa using hz
    go_enter Tryd.func18, Tryd.ntmps18
    go_wp2_with fail
    refine CD.out.mono ?_
    rintro e w1 ⟨A1, m1, c1, rfl, hby, hb1⟩
    have HB1 := Lib.hid hb1
    clear hby hb1
    go_wp2
    go_ret2
    exact ⟨none, 0, 0, by rw [HT.out]; rfl, by rw [HT.out]; exact Rd.nilR _ _, HB1.out⟩
theorem mark_three (a b c : UInt8) (t : List UInt8) : markB (a :: b :: c :: t) = (decide (a = 239) && decide (b = 187) && decide (c = 191)) := by
  unfold markB
  simp only [List.isPrefixOf, Bool.and_true]
  rw [show ((239 : UInt8) == a) = decide (a = 239) by rw [Bool.beq_comm]; rfl, show ((187 : UInt8) == b) = decide (b = 187) by rw [Bool.beq_comm]; rfl, show ((191 : UInt8) == c) = decide (c = 191) by rw [Bool.beq_comm]; rfl, Bool.and_assoc]
set_option maxRecDepth 100000 in
set_option maxHeartbeats 4000000 in
theorem refMark25_c (A : Option Addr) (n cap : Nat) (l : List UInt8) (w : World) (B : Nat) (h : Byt w B A n cap l) (hm : n ≤ 1000000) :
    Calls Tryd.prog 24 #[.slice A n cap] w fun e w' => e = .returned (.bool (markB l)) ∧ w = w' := by
  have hln := h.length
  by_cases hn : 2 < n
  · have hni : (2 : Int) < (n : Int) := by omega
    obtain ⟨bb, o, x, rfl, hb, hx, hcx⟩ := h.cell (i := 0) (by omega)
    obtain ⟨b2, o2, y, e2, _, hy, hcy⟩ := h.cell (i := 1) (by omega)
    cases e2
    obtain ⟨b3, o3, z, e3, _, hz, hcz⟩ := h.cell (i := 2) (by omega)
    cases e3
    have hl : ∃ t, l = x :: y :: z :: t := by
      match l, hx, hy, hz with
      | a :: b :: c :: t, hx, hy, hz =>
        simp at hx hy hz
        subst hx hy hz
        exact ⟨t, rfl⟩
    obtain ⟨t, rfl⟩ := hl
    rw [mark_three]
    rw [Nat.add_zero] at hcx
    clear h hx hy hz hb hln hn
    have t1 := toNat_eq x 239
    have t2 := toNat_eq y 187
    have t3 := toNat_eq z 191
    have e1 : ((239 : UInt8).toNat : Int) = 239 := rfl
    have e2 : ((187 : UInt8).toNat : Int) = 187 := rfl
    have e3 : ((191 : UInt8).toNat : Int) = 191 := rfl
    rw [e1] at t1
    rw [e2] at t2
    rw [e3] at t3
    generalize (x.toNat : Int) = xi at *
    generalize (y.toNat : Int) = yi at *
    generalize (z.toNat : Int) = zi at *
    clear e1 e2 e3
    cases hd1 : decide (x = 239) with
    | false =>
      rw [hd1] at t1
      go_enter Tryd.func24, Tryd.ntmps24
      go_wp2
      go_ret
      exact ⟨rfl, rfl⟩
    | true =>
      rw [hd1] at t1
      cases hd2 : decide (y = 187) with
      | false =>
        rw [hd2] at t2
        go_enter Tryd.func24, Tryd.ntmps24
        go_wp2
        go_ret
        exact ⟨rfl, rfl⟩
      | true =>
        rw [hd2] at t2
        cases hd3 : decide (z = 191) with
        | false =>
          rw [hd3] at t3
          go_enter Tryd.func24, Tryd.ntmps24
          go_wp2
          go_ret
          exact ⟨rfl, rfl⟩
        | true =>
          rw [hd3] at t3
          go_enter Tryd.func24, Tryd.ntmps24
          go_wp2
          go_ret
          exact ⟨rfl, rfl⟩
  · have hni : ¬ (2 : Int) < (n : Int) := by omega
    have hm0 : markB l = false := by
      cases hb : markB l with
      | false => rfl
      | true =>
        have := (List.isPrefixOf_iff_prefix.1 hb).length_le
        simp at this
        omega
    rw [hm0]
    clear h hn
    go_enter Tryd.func24, Tryd.ntmps24
    go_wp2
    go_ret
    exact ⟨rfl, rfl⟩
set_option maxRecDepth 100000 in
set_option maxHeartbeats 8000000 in
theorem refDoc25_c (A : Option Addr) (n cap : Nat) (l : List UInt8) (w : World) (h : Byt w w.heap.size A n cap l) (hm : n ≤ 30000) :
    Calls Tryd.prog 22 #[.slice A n cap] w (SlP (docL l) w) := by
  have HR := Lib.hid (refRunes_c A n cap l w h (by omega))
  have hrl := runesL_le l.length l
  rw [h.length] at hrl
  have hln := h.length
  have HRL : Hid ((runesOut l).1.length ≤ n) := Lib.hid (by unfold runesOut; rw [← h.length] at *; exact hrl.2)
  have HCH : Hid (∀ (r : Nat) (w1 : World), Calls Tryd.prog 51 #[.int .i64 (r : Int)] w1 fun e w' => e = .returned (.bool (isDoc (r : Int))) ∧ w1 = w') := Lib.hid fun r w1 => refChar_c r w1
  have HD : Hid (docL l = if (runesOut l).2 = true then (if ((runesOut l).1.all fun r => isDoc (r : Int)) = true then (nrm (bodyL l), 0) else ([], 6)) else ([], 5)) := Lib.hid (by
    unfold docL wrongL allOut
    rw [if_neg (show ¬ 1048576 < l.length by omega)]
    cases (runesOut l).2 with
    | false => rfl
    | true =>
      cases ((runesOut l).1.all fun r => isDoc (r : Int)) with
      | false => rfl
      | true => rfl)
  have HMK : Hid (∀ W, Below w.heap.size w W → Calls Tryd.prog 24 #[.slice A n cap] W fun e w' => e = .returned (.bool (markB l)) ∧ W = w') := Lib.hid fun W hb => refMark25_c A n cap l W _ (h.below hb) (by omega)
  have HBY := Lib.hid h
  have hcl := h.le
  clear h hrl
  generalize docL l = dl at *
  unfold RunesP at HR
  generalize runesOut l = ro at *
  obtain ⟨rs, ok⟩ := ro
  simp only at HR HRL HD
  have hn1 : ¬ (1048576 : Int) < (n : Int) := by omega
  go_enter Tryd.func22, Tryd.ntmps22
  go_wp2_with fail
  refine HR.out.mono ?_
  rintro e w1 ⟨hb, ⟨hok, A', c', rfl, hrd⟩ | ⟨hok, z, hz, rfl⟩⟩
  · have B1 := Lib.hid hb
    have HRD := Lib.hid hrd
    subst hok
    clear hb hrd
    go_wp2
    go_loopg [6] (rs.length) (fun g i wr => ∃ t : Nat, t ≤ rs.length ∧ Hid (g + t = rs.length) ∧ i = .int .i64 (t : Int) ∧ w1 = wr ∧ Hid ((rs.take t).all (fun r => isDoc (r : Int)) = true))
    case atStart => exact ⟨0, Nat.zero_le _, Lib.hid rfl, rfl, rfl, Lib.hid rfl⟩
    case round =>
      obtain ⟨t, ht, hg, rfl, rfl, HN⟩ := hrel
      have ht0 : (0 : Int) ≤ (t : Int) := by omega
      have htb : (t : Int) ≤ 50000 := by have := HRL.out; omega
      by_cases htn : t < rs.length
      · have htni : (t : Int) < (rs.length : Int) := by omega
        have hrt : rs[t]? = some (rs.getD t 0) := by rw [List.getElem?_eq_getElem htn]; simp [htn]
        obtain ⟨b, o, e, hbb, hcl⟩ := HRD.out.at_ (by have := HRD.out.le; omega)
        subst e
        have hcell := hcl t (iv (rs.getD t 0)) (by rw [List.getElem?_map, hrt]; rfl)
        have HAT := Lib.hid (all_take isDoc rs t _ hrt)
        have HAL : Hid (isDoc (rs.getD t 0 : Int) = false → (rs.all fun r => isDoc (r : Int)) = false) := Lib.hid (fun h => by
          rw [List.all_eq_false]
          exact ⟨_, List.mem_of_getElem? hrt, by rw [h]; simp⟩)
        unfold iv at hcell
        clear hcl hrt hbb
        generalize rs.getD t 0 = r at *
        have HII := Lib.hid (HCH.out r w1)
        cases hp : isDoc (r : Int) with
        | true =>
          have HN2 : Hid ((rs.take (t + 1)).all (fun r => isDoc (r : Int)) = true) := Lib.hid (by rw [HAT.out, HN.out, hp]; rfl)
          rw [hp] at HII
          clear hp
          go_wp2_with fail
          refine HII.out.mono ?_
          rintro e w2 ⟨rfl, rfl⟩
          go_wp2
          go_roundg (rs.length - (t + 1))
          case measure => have := hg.out; omega
          case rel => exact ⟨t + 1, by omega, Lib.hid (by omega), by go_num, rfl, HN2⟩
        | false =>
          have HE : Hid (dl = ([], 6)) := Lib.hid (by rw [HD.out, HAL.out hp]; rfl)
          rw [hp] at HII
          clear hp
          go_wp2_with fail
          refine HII.out.mono ?_
          rintro e w2 ⟨rfl, rfl⟩
          go_wp2
          go_ret2
          exact ⟨none, 0, 0, by rw [HE.out]; rfl, by rw [HE.out]; exact Rd.nilR _ _, B1.out⟩
      · have htni : ¬ (t : Int) < (rs.length : Int) := by omega
        have HE : Hid (dl = (nrm (bodyL l), 0)) := Lib.hid (by
          have := HN.out
          rw [List.take_of_length_le (by omega)] at this
          rw [HD.out, this]; rfl)
        have hbl := body_le l
        cases hmk : markB l with
        | true =>
          have hle : 3 ≤ n := by
            have := (List.isPrefixOf_iff_prefix.1 hmk).length_le
            rw [hln] at this
            simpa using this
          have hbo : bodyL l = l.drop 3 := by unfold bodyL; rw [if_pos hmk]
          have CN := Lib.hid (refNorm_c _ _ _ _ _ _ ((HBY.out.below B1.out).drop hle) B1.out.size (by omega))
          have HMK1 := Lib.hid (HMK.out w1 B1.out)
          rw [hmk] at HMK1
          have hrf : ∀ w3 : World, (Instr.slice 35 (.slice A n cap) (some (.int .i64 3)) none none).run Tryd.prog w3 = .ok (.slice (cutA A cap 3) (n - 3) (cap - 3)) w3 := fun w3 => run_from (w := w3) A n cap 3 hle
          rw [← hbo] at CN
          clear hmk hbl
          go_wp2_with fail
          refine HMK1.out.mono ?_
          rintro e w2 ⟨rfl, rfl⟩
          go_wp2_with fail
          refine CN.out.mono ?_
          rintro e w2 ⟨A4, m4, c4, rfl, hby4, hb4⟩
          have HF := Lib.hid (And.intro hby4 (B1.out.trans (hb4.mono B1.out.size)))
          clear hby4 hb4
          go_wp2
          go_ret2
          exact ⟨A4, m4, c4, by rw [HE.out]; rfl, by rw [HE.out]; exact HF.out.1, HF.out.2⟩
        | false =>
          have hbo : bodyL l = l := by unfold bodyL; rw [if_neg (by rw [hmk]; simp)]
          have CN := Lib.hid (refNorm_c _ _ _ _ _ _ (HBY.out.below B1.out) B1.out.size (by omega))
          have HMK1 := Lib.hid (HMK.out w1 B1.out)
          rw [hmk] at HMK1
          rw [hbo] at HE
          clear hmk hbl
          go_wp2_with fail
          refine HMK1.out.mono ?_
          rintro e w2 ⟨rfl, rfl⟩
          go_wp2_with fail
          refine CN.out.mono ?_
          rintro e w2 ⟨A4, m4, c4, rfl, hby4, hb4⟩
          have HF := Lib.hid (And.intro hby4 (B1.out.trans (hb4.mono B1.out.size)))
          clear hby4 hb4
          go_wp2
          go_ret2
          exact ⟨A4, m4, c4, by rw [HE.out]; rfl, by rw [HE.out]; exact HF.out.1, HF.out.2⟩
  · have B1 := Lib.hid hb
    subst hok
    have HE : Hid (dl = ([], 5)) := Lib.hid (by rw [HD.out]; rfl)
    have hd : decide (0 ≤ z) = true := by simpa using hz
    clear hb hz
    go_wp2
    go_ret2
    exact ⟨none, 0, 0, by rw [HE.out]; rfl, by rw [HE.out]; exact Rd.nilR _ _, B1.out⟩
set_option maxRecDepth 100000 in
set_option maxHeartbeats 8000000 in
theorem refText25_c (A : Option Addr) (n cap : Nat) (l : List UInt8) (w : World) (h : Byt w w.heap.size A n cap l) (hm : n ≤ 30000) :
    Calls Tryd.prog 19 #[.slice A n cap] w (SlP (textL25 l) w) := by
  have CD := Lib.hid (refDoc25_c A n cap l w h hm)
  have hln := h.length
  have hdl : (docL l).1.length ≤ 30000 := by
    unfold docL
    split
    · have := nrm_le (bodyL l); have := body_le l; simp only; omega
    · simp
  have HF := Lib.hid hdl
  clear h
  by_cases hz : (docL l).2 = 0
  · generalize hd : docL l = d at *
    obtain ⟨t, e0⟩ := d
    dsimp only at hz HF hdl
    subst hz
    by_cases hx : (declAt true t 0).2.2 = 0
    · have HT : Hid (textL25 l = (t.drop (declAt true t 0).2.1, 0)) := Lib.hid (by unfold textL25; rw [hd]; simp only [if_true]; rw [if_pos hx])
      have hnx := decl_next t hx
      have CX : Hid (∀ A m c w1, Byt w1 w1.heap.size A m c t → Calls Tryd.prog 45 #[.slice A m c, .int .i64 0, .bool true] w1 fun e w' => e = .returned (declV (declAt true t 0)) ∧ Below w1.heap.size w1 w') := Lib.hid fun A m c w1 hb => refReadDecl_c true A m c t 0 w1 hb (by have := hb.length; omega)
      clear hd
      generalize declAt true t 0 = o at *
      obtain ⟨⟨o1, o2, o3, o4⟩, nx, oe⟩ := o
      dsimp only at hx hnx HT
      subst hx
      unfold declV DeclL.cells at CX
      dsimp only at CX
      go_enter Tryd.func19, Tryd.ntmps19
      go_wp2_with fail
      refine CD.out.mono ?_
      rintro e w1 ⟨A1, m1, c1, rfl, hby, hb1⟩
      have hml := hby.length
      dsimp only at hby hml
      have HB1 := Lib.hid (And.intro hby hb1)
      have CX' := Lib.hid (CX.out A1 m1 c1 w1 hby)
      clear hby hb1
      go_wp2_with fail
      refine CX'.out.mono ?_
      rintro e w2 ⟨rfl, hb2⟩
      have hnm : nx ≤ m1 := by omega
      have hnm2 : (nx : Int) ≤ (m1 : Int) := by omega
      have hby3 : Byt (w2.alloc (.cells #[.bool o1, .string ⟨o2.toArray⟩, .string ⟨o3.toArray⟩, .string ⟨o4.toArray⟩] 67)) w1.heap.size A1 m1 c1 t := (HB1.out.1.below hb2).below ((Below.refl _ w2).alloc hb2.size _)
      have hle := hby3.le
      have hrf : ∀ w3 : World, (Instr.slice 35 (.slice A1 m1 c1) (some (.int .i64 (nx : Int))) none none).run Tryd.prog w3 = .ok (.slice (cutA A1 c1 nx) (m1 - nx) (c1 - nx)) w3 := fun w3 => run_from (w := w3) A1 m1 c1 nx hnm
      have HE : Hid (Byt (w2.alloc (.cells #[.bool o1, .string ⟨o2.toArray⟩, .string ⟨o3.toArray⟩, .string ⟨o4.toArray⟩] 67)) (w2.alloc (.cells #[.bool o1, .string ⟨o2.toArray⟩, .string ⟨o3.toArray⟩, .string ⟨o4.toArray⟩] 67)).heap.size (cutA A1 c1 nx) (m1 - nx) (c1 - nx) (t.drop nx) ∧ Below w.heap.size w (w2.alloc (.cells #[.bool o1, .string ⟨o2.toArray⟩, .string ⟨o3.toArray⟩, .string ⟨o4.toArray⟩] 67))) :=
        Lib.hid ⟨(hby3.drop hnm).more (by rw [World.size_alloc]; have := hb2.size; omega), (HB1.out.2.trans (hb2.mono HB1.out.2.size)).alloc (Nat.le_trans HB1.out.2.size hb2.size) _⟩
      clear hb2 hby3
      go_wp2
      go_ret2
      exact ⟨_, _, _, by rw [HT.out]; rfl, by rw [HT.out]; exact HE.out.1, HE.out.2⟩
    · have HT : Hid (textL25 l = ([], (declAt true t 0).2.2)) := Lib.hid (by unfold textL25; rw [hd]; simp only [if_true]; rw [if_neg hx])
      have CX : Hid (∀ A m c w1, Byt w1 w1.heap.size A m c t → Calls Tryd.prog 45 #[.slice A m c, .int .i64 0, .bool true] w1 fun e w' => e = .returned (declV (declAt true t 0)) ∧ Below w1.heap.size w1 w') := Lib.hid fun A m c w1 hb => refReadDecl_c true A m c t 0 w1 hb (by have := hb.length; omega)
      clear hd
      generalize declAt true t 0 = o at *
      obtain ⟨⟨o1, o2, o3, o4⟩, nx, oe⟩ := o
      dsimp only at hx HT
      have hx2 : ((oe : Int) == 0) = false := by simpa using hx
      unfold declV DeclL.cells at CX
      dsimp only at CX
      go_enter Tryd.func19, Tryd.ntmps19
      go_wp2_with fail
      refine CD.out.mono ?_
      rintro e w1 ⟨A1, m1, c1, rfl, hby, hb1⟩
      have HB1 := Lib.hid (And.intro hby hb1)
      have CX' := Lib.hid (CX.out A1 m1 c1 w1 hby)
      clear hby hb1
      go_wp2_with fail
      refine CX'.out.mono ?_
      rintro e w2 ⟨rfl, hb2⟩
      have HB2 : Hid (Below w.heap.size w (w2.alloc (.cells #[.bool o1, .string ⟨o2.toArray⟩, .string ⟨o3.toArray⟩, .string ⟨o4.toArray⟩] 67))) := Lib.hid ((HB1.out.2.trans (hb2.mono HB1.out.2.size)).alloc (Nat.le_trans HB1.out.2.size hb2.size) _)
      clear hb2
      go_wp2
      go_ret2
      exact ⟨none, 0, 0, by rw [HT.out]; rfl, by rw [HT.out]; exact Rd.nilR _ _, HB2.out⟩
  · have HT : Hid (textL25 l = ([], (docL l).2)) := Lib.hid (by unfold textL25; rw [if_neg hz])
    generalize docL l = d at *
    obtain ⟨t, e0⟩ := d
    dsimp only at hz HT
    have hz2 : ((e0 : Int) == 0) = false := by simpa using hz
    go_enter Tryd.func19, Tryd.ntmps19
    go_wp2_with fail
    refine CD.out.mono ?_
    rintro e w1 ⟨A1, m1, c1, rfl, hby, hb1⟩
    have HB1 := Lib.hid hb1
    clear hby hb1
    go_wp2
    go_ret2
    exact ⟨none, 0, 0, by rw [HT.out]; rfl, by rw [HT.out]; exact Rd.nilR _ _, HB1.out⟩
end Go.Proofs.YtljmpghijlibaaaDoor
