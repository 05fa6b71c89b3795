/- cref.Char. -/
import Derived.Test.YtpblphddpcogcaaDoorRows
import Derived.WalkKit
import Derived.ProofKit
import Derived.OpenShut
import Derived.ShutString
import Derived.ChangeOld
import Derived.Below
import Derived.BigQuiet
import Derived.Deep.QuietTactic
import Derived.Lib.Hide
import Derived.Deep.RegionHeld3
import Derived.Lib.SlBytesConst
import Derived.Laws.CopyOwn
import Derived.Laws.CopyRow
import Derived.Lib.Bytes
import Derived.Deep.LoopGhost
import Derived.Deep.DeepFit
import Derived.Deep.DeepMust
import Derived.WalkSpells
import Derived.WalkLawsBesides
import Derived.Test.YtpblphddpcogcaaDoorBase
import Derived.Test.YtpblphddpcogcaaDoorShelf
import Derived.Test.YtpblphddpcogcaaDoorCharPlain
import Derived.Test.YtpblphddpcogcaaDoorUtf1
import Derived.Test.YtpblphddpcogcaaDoorUtf2
import Derived.Test.YtpblphddpcogcaaDoorUtf3
import Derived.Test.YtpblphddpcogcaaDoorChars1
import Derived.Test.YtpblphddpcogcaaDoorName1
import Derived.Test.YtpblphddpcogcaaDoorName2
import Derived.Test.YtpblphddpcogcaaDoorName3
import Derived.Test.YtpblphddpcogcaaDoorCref1
import Derived.Test.YtpblphddpcogcaaDoorDig
import Derived.Test.YtpblphddpcogcaaDoorDig2
import Derived.Test.YtpblphddpcogcaaDoorPfx
import Derived.Test.YtpblphddpcogcaaDoorRef1
import Derived.Test.YtpblphddpcogcaaDoorNum
namespace Go.Proofs.YtpblphddpcogcaaDoor
open Go.ChangeShapes Go.WideShapes Go.ChangeAt Go.RowKit
set_option linter.unusedVariables false
theorem digitB_c (b : Int) (hb : b = 10 ∨ b = 16) (r : Int) (w : World) : Calls Tryd.prog 98 #[.int .i64 r, .int .i64 b] w fun e w' => e = .returned (.int .i64 (digit b r)) ∧ w = w' := by
  rcases hb with rfl | rfl
  · exact digit10_c r w
  · exact digit16_c r w
theorem refDigitB_c (b : Int) (hb : b = 10 ∨ b = 16) (r : Int) (w : World) : Calls Tryd.prog 73 #[.int .i64 r, .int .i64 b] w fun e w' => e = .returned (.int .i64 (digit b r)) ∧ w = w' := by
  rcases hb with rfl | rfl
  · exact refDigit10_c r w
  · exact refDigit16_c r w
def numV (o : Int × Nat × Nat) : Value := .tuple #[.int .i64 o.1, .int .i64 (o.2.1 : Int), .int .i64 (o.2.2 : Int)]
theorem pre2 (a b : UInt8) (l : List UInt8) : [a, b].isPrefixOf l = decide (l[0]? = some a ∧ l[1]? = some b) := by
  match l with
  | [] => simp
  | [x] => simp [List.isPrefixOf]
  | x :: y :: t =>
    simp [List.isPrefixOf]; rw [Bool.eq_iff_iff]; simp
    exact ⟨fun ⟨p, q⟩ => ⟨p.symm, q.symm⟩, fun ⟨p, q⟩ => ⟨p.symm, q.symm⟩⟩
theorem pre3 (a b c : UInt8) (l : List UInt8) : [a, b, c].isPrefixOf l = decide (l[0]? = some a ∧ l[1]? = some b ∧ l[2]? = some c) := by
  match l with
  | [] => simp
  | [x] => simp [List.isPrefixOf]
  | [x, y] => simp [List.isPrefixOf]
  | x :: y :: z :: t =>
    simp [List.isPrefixOf]; rw [Bool.eq_iff_iff]; simp
    exact ⟨fun ⟨p, q, r⟩ => ⟨p.symm, q.symm, r.symm⟩, fun ⟨p, q, r⟩ => ⟨p.symm, q.symm, r.symm⟩⟩
set_option maxRecDepth 100000 in
set_option maxHeartbeats 2000000 in
theorem crefChar_range (A : Option Addr) (n cap : Nat) (at_ : Int) (w : World) (ha : at_ < 0 ∨ (n : Int) < at_) :
    Calls Tryd.prog 70 #[.slice A n cap, .int .i64 at_] w fun e w' => e = .returned (numV (0, 0, 3)) ∧ Below w.heap.size w w' := by
  by_cases h0 : at_ < 0
  · have hd : decide (at_ < 0) = true := by simpa using h0
    clear ha
    go_enter Tryd.func70, Tryd.ntmps70
    go_wp2_with fail
    go_step3
    go_wp2
    rw [Exit.noGoto_ret]
    go_ret3
    exact ⟨rfl, Below.refl _ _⟩
  · have h1 : (n : Int) < at_ := by omega
    clear ha
    go_enter Tryd.func70, Tryd.ntmps70
    go_wp2_with fail
    go_step3
    go_wp2
    rw [Exit.noGoto_ret]
    go_ret3
    exact ⟨rfl, Below.refl _ _⟩
set_option maxRecDepth 100000 in
set_option maxHeartbeats 2000000 in
theorem crefChar_no (A : Option Addr) (n cap : Nat) (l : List UInt8) (at_ : Nat) (w : World) (h : Byt w w.heap.size A n cap l) (hm : n ≤ 50000) (hat : at_ ≤ n) (hp : [38, 35].isPrefixOf (l.drop at_) = false) :
    Calls Tryd.prog 70 #[.slice A n cap, .int .i64 at_] w fun e w' => e = .returned (numV (0, 0, 7)) ∧ Below w.heap.size w w' := by
  have hp3 : [38, 35, 120].isPrefixOf (l.drop at_) = false := by
    rw [pre2] at hp
    rw [pre3]
    simp only [decide_eq_false_iff_not] at hp ⊢
    exact fun h => hp ⟨h.1, h.2.1⟩
  have hat' : ¬ (n : Int) < (at_ : Int) := by omega
  have hrf : ∀ w2 : World, (Instr.slice 22 (.slice A n cap) (some (.int .i64 (at_ : Int))) none none).run Tryd.prog w2 = .ok (.slice (cutA A cap at_) (n - at_) (cap - at_)) w2 := fun w2 => run_from (w := w2) A n cap at_ hat
  have hap : IntKind.i64.wrap ((at_ : Int) + 2) = (at_ : Int) + 2 := by rw [IntKind.wrap_i64]; omega
  have kc := fun (w : World) (C : Array Value) (n c : Nat) => Lib.run_convert_bytes_const (P := Tryd.prog) w 22 5 C n c Tryd.underlying22 Tryd.underlying5
  have kc2 := kc (w.alloc (.cells #[bv 38, bv 35, bv 120] 5 (3, 4))) #[.int .u8 38, .int .u8 35] 2 2
  rw [show (w.alloc (.cells #[bv 38, bv 35, bv 120] 5 (3, 4))).heap.size = w.heap.size + 1 by simp] at kc2
  have k1 := Byt.const w [38, 35, 120] (3, 4) (by decide)
  have b1 : Below w.heap.size w (w.alloc (.cells ([38, 35, 120].map bv).toArray 5 (3, 4))) := (Below.refl _ _).alloc (Nat.le_refl _) _
  have c1 := hasPrefix_c _ _ _ _ _ _ _ _ _ _ _ ((h.below b1).drop hat) k1
  have k2 := Byt.const (w.alloc (.cells ([38, 35, 120].map bv).toArray 5 (3, 4))) [38, 35] (2, 3) (by decide)
  have b2 : Below w.heap.size w ((w.alloc (.cells ([38, 35, 120].map bv).toArray 5 (3, 4))).alloc (.cells ([38, 35].map bv).toArray 5 (2, 3))) := b1.alloc (by simp) _
  have c2 := hasPrefix_c _ _ _ _ _ _ _ _ _ _ _ ((h.below b2).drop hat) k2
  rw [hp3] at c1
  rw [hp] at c2
  rw [show (w.alloc (.cells ([38, 35, 120].map bv).toArray 5 (3, 4))).heap.size = w.heap.size + 1 by simp] at c2
  have HC2 := Lib.hid c2
  clear c2
  have HB := Lib.hid b2
  clear b2 b1 k1 k2 h hp hp3 hm
  go_enter Tryd.func70, Tryd.ntmps70
  go_wp2_with fail
  go_step3
  go_wp2_with fail
  refine c1.mono ?_
  rintro e w1 ⟨rfl, rfl⟩
  clear kc c1
  go_wp2_with fail
  refine HC2.out.mono ?_
  rintro e w1 ⟨rfl, rfl⟩
  go_wp2
  rw [Exit.noGoto_ret]
  go_ret3
  exact ⟨rfl, HB.out⟩
end Go.Proofs.YtpblphddpcogcaaDoor
