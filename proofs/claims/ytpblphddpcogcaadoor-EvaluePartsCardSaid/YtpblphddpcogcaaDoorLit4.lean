/- lit.read, Value. -/
import Derived.Test.YtpblphddpcogcaaDoorRows
import Derived.WalkKit
import Derived.ProofKit
import Derived.OpenShut
import Derived.ShutString
import Derived.ChangeOld
import Derived.Below
import Derived.BigQuiet
import Derived.Deep.QuietTactic
import Derived.Lib.Hide
import Derived.Deep.RegionHeld3
import Derived.Lib.SlBytesConst
import Derived.Laws.CopyOwn
import Derived.Laws.CopyRow
import Derived.Lib.Bytes
import Derived.Deep.LoopGhost
import Derived.Deep.DeepFit
import Derived.Deep.DeepMust
import Derived.WalkSpells
import Derived.WalkLawsBesides
import Derived.Test.YtpblphddpcogcaaDoorBase
import Derived.Test.YtpblphddpcogcaaDoorShelf
import Derived.Test.YtpblphddpcogcaaDoorCharPlain
import Derived.Test.YtpblphddpcogcaaDoorUtf1
import Derived.Test.YtpblphddpcogcaaDoorUtf2
import Derived.Test.YtpblphddpcogcaaDoorUtf3
import Derived.Test.YtpblphddpcogcaaDoorChars1
import Derived.Test.YtpblphddpcogcaaDoorName1
import Derived.Test.YtpblphddpcogcaaDoorName2
import Derived.Test.YtpblphddpcogcaaDoorName3
import Derived.Test.YtpblphddpcogcaaDoorCref1
import Derived.Test.YtpblphddpcogcaaDoorCref2
import Derived.Test.YtpblphddpcogcaaDoorDig
import Derived.Test.YtpblphddpcogcaaDoorDig2
import Derived.Test.YtpblphddpcogcaaDoorRef1
import Derived.Test.YtpblphddpcogcaaDoorRef9
import Derived.Test.YtpblphddpcogcaaDoorNum
import Derived.Test.YtpblphddpcogcaaDoorCChar
import Derived.Test.YtpblphddpcogcaaDoorCChar2
import Derived.Test.YtpblphddpcogcaaDoorRefC
import Derived.Test.YtpblphddpcogcaaDoorBuild
import Derived.Test.YtpblphddpcogcaaDoorEsc
import Derived.Test.YtpblphddpcogcaaDoorLitP
import Derived.Test.YtpblphddpcogcaaDoorLit1
import Derived.Test.YtpblphddpcogcaaDoorLit2
import Derived.Test.YtpblphddpcogcaaDoorLit3
namespace Go.Proofs.YtpblphddpcogcaaDoor
open Go.ChangeShapes Go.WideShapes Go.ChangeAt Go.RowKit
set_option linter.unusedVariables false
theorem without1_c (c : UInt8) (l : List UInt8) (a : Nat) (w : World) (ha : w.cell? ⟨a, 0, none⟩ = some (.int .u8 c.toNat)) :
    Calls Tryd.prog 118 #[.string ⟨l.toArray⟩, .pointer (some ⟨a, 0, none⟩)] w fun e w' => e = .returned (.int .i64 (if 0 ≤ Lib.indexByte l c then 7 else 0)) ∧ w = w' := by
  have hi := Tryd.strings_IndexByte ⟨l.toArray⟩ (c.toNat : Int) w
  rw [show ((c.toNat : Int).toNat.toUInt8) = c by simp] at hi
  have hi' : Calls Tryd.prog 38 #[.string ⟨l.toArray⟩, .int .u8 (c.toNat : Int)] w fun e w' => e = .returned (.int .i64 (Lib.indexByte l c)) ∧ w' = w := hi
  have HI := Lib.hid hi'
  clear hi hi'
  generalize Lib.indexByte l c = ix at *
  generalize (c.toNat : Int) = cn at *
  by_cases h0 : 0 ≤ ix
  · have hd : decide (0 ≤ ix) = true := by simpa using h0
    rw [if_pos h0]
    go_enter Tryd.func118, Tryd.ntmps118
    go_wp2_with fail
    refine HI.out.mono ?_
    rintro e w1 ⟨rfl, rfl⟩
    go_wp2
    go_ret
    exact ⟨rfl, rfl⟩
  · have hd : decide (0 ≤ ix) = false := by simpa using h0
    rw [if_neg h0]
    go_enter Tryd.func118, Tryd.ntmps118
    go_wp2_with fail
    refine HI.out.mono ?_
    rintro e w1 ⟨rfl, rfl⟩
    go_wp2
    go_ret
    exact ⟨rfl, rfl⟩
theorem refsR_c (l : List UInt8) (w : World) (hT : Tabs w) (hF : Forms w) (hm : l.length ≤ 40000) :
    Calls Tryd.prog 104 #[.string ⟨l.toArray⟩] w fun e w' => e = .returned (.int .i64 (refsOut l).2) ∧ Below w.heap.size w w' := by
  have HR := Lib.hid (refs_c l w hT hF hm)
  clear hT hF
  generalize refsOut l = r at *
  obtain ⟨r1, r2⟩ := r
  go_enter Tryd.func104, Tryd.ntmps104
  go_wp2_with fail
  refine HR.out.mono ?_
  rintro e w1 ⟨rfl, hb⟩
  have HB := Lib.hid hb
  clear hb
  go_wp2
  go_ret
  exact ⟨rfl, HB.out⟩
def wV (a : Nat) : Value := .func (.func 118) #[] #[.pointer (some ⟨a, 0, none⟩)]
theorem without_c (c : Int) (w : World) : Calls Tryd.prog 103 #[.int .u8 c] w fun e w' => e = .returned (wV w.heap.size) ∧ w.alloc (.cells #[.int .u8 c] 5) = w' := by
  unfold wV
  go_enter Tryd.func103, Tryd.ntmps103
  go_wp2
  go_ret
  exact ⟨rfl, rfl⟩
/-- What stands between quotes, without a byte, each reference one. -/
def strictAt (but : UInt8) (l : List UInt8) (at_ : Int) : List UInt8 × Nat × Nat :=
  if (quotedAt l at_).2.2 ≠ 0 then ([], 0, (quotedAt l at_).2.2)
  else if 0 ≤ Lib.indexByte (quotedAt l at_).1 but then ([], 0, 7)
  else if (refsOut (quotedAt l at_).1).2 ≠ 0 then ([], 0, (refsOut (quotedAt l at_).1).2)
  else ((quotedAt l at_).1, (quotedAt l at_).2.1, 0)
theorem quotedAt_le (l : List UInt8) (at_ : Int) : (quotedAt l at_).1.length ≤ l.length := by
  unfold quotedAt quotedOut quotedQ
  split
  · simp
  · split
    · simp
    · split
      · split
        · simp
        · simp only [List.length_take, List.length_drop]; omega
      · simp
set_option maxRecDepth 100000 in
set_option maxHeartbeats 4000000 in
theorem litRead_c (A : Option Addr) (n cap : Nat) (l : List UInt8) (at_ : Int) (but : UInt8) (a g : Nat) (w : World) (h : Byt w w.heap.size A n cap l) (hT : Tabs w) (hF : Forms w) (hm : n ≤ 40000)
    (ha : w.cell? ⟨a, 0, none⟩ = some (.int .u8 but.toNat)) (hal : a < w.heap.size) (hg : w.heap[g]? = some (.cells #[wV a, .func (.func 104) #[] #[]] 132)) :
    Calls Tryd.prog 102 #[.slice A n cap, .int .i64 at_, .slice (some ⟨g, 0, none⟩) 2 2] w fun e w' => e = .returned (outV (strictAt but l at_)) ∧ Below w.heap.size w w' := by
  have hL := hT.low hF
  have hgl := lt_of hg
  have HQ := Lib.hid (quoted_c A n cap l at_ w _ h (by omega))
  have hql := quotedAt_le l at_
  rw [h.length] at hql
  have HS : Hid (strictAt but l at_ = if (quotedAt l at_).2.2 ≠ 0 then ([], 0, (quotedAt l at_).2.2) else if 0 ≤ Lib.indexByte (quotedAt l at_).1 but then ([], 0, 7) else if (refsOut (quotedAt l at_).1).2 ≠ 0 then ([], 0, (refsOut (quotedAt l at_).1).2) else ((quotedAt l at_).1, (quotedAt l at_).2.1, 0)) := Lib.hid rfl
  have HW : Hid (∀ w1, Below w.heap.size w w1 → Calls Tryd.prog 118 #[.string ⟨(quotedAt l at_).1.toArray⟩, .pointer (some ⟨a, 0, none⟩)] w1 fun e w' => e = .returned (.int .i64 (if 0 ≤ Lib.indexByte (quotedAt l at_).1 but then 7 else 0)) ∧ w1 = w') := Lib.hid fun w1 hb => without1_c but _ a w1 (by rw [hb.cell hal]; exact ha)
  have HR : Hid (∀ w1, Below w.heap.size w w1 → Calls Tryd.prog 104 #[.string ⟨(quotedAt l at_).1.toArray⟩] w1 fun e w' => e = .returned (.int .i64 (refsOut (quotedAt l at_).1).2) ∧ Below w1.heap.size w1 w') := Lib.hid fun w1 hb => refsR_c _ w1 (hT.below hb hL) (hF.below hb hF.lt) (by omega)
  have HG : Hid (∀ w1, Below w.heap.size w w1 → w1.cell? ⟨g, 0, none⟩ = some (wV a) ∧ w1.cell? ⟨g, 1, none⟩ = some (.func (.func 104) #[] #[])) := Lib.hid fun w1 hb => by
    have := (hb.block g hgl).trans hg
    exact ⟨by rw [cell_of 0 this]; rfl, by rw [cell_of 1 this]; rfl⟩
  clear h hT hF hL ha hg hql hm hal
  generalize strictAt but l at_ = res at *
  generalize quotedAt l at_ = q at *
  obtain ⟨s, k, f⟩ := q
  simp only at HS HW HR
  unfold outV at HQ
  unfold wV at HG
  by_cases hf : f = 0
  · subst hf
    go_enter Tryd.func102, Tryd.ntmps102
    go_wp2_with fail
    refine HQ.out.mono ?_
    rintro e w1 ⟨rfl, m, hw1⟩
    have B1 : Hid (Below w.heap.size w w1) := Lib.hid (by rw [hw1]; exact below_drewN' (Below.refl _ _))
    clear hw1
    go_wp2_with fail
    go_loopg [27] (3) (fun g i wr => ∃ j : Nat, j ≤ 2 ∧ Hid (g + j = 3) ∧ i = .int .i64 (j : Int) ∧ Hid (Below w.heap.size w wr) ∧ Hid ((1 ≤ j → ¬ 0 ≤ Lib.indexByte s but) ∧ (2 ≤ j → (refsOut s).2 = 0)))
    case atStart => exact ⟨0, by omega, Lib.hid rfl, rfl, B1, Lib.hid ⟨fun h => absurd h (by omega), fun h => absurd h (by omega)⟩⟩
    case round =>
      obtain ⟨j, hj, hg, rfl, BR, HJ⟩ := hrel
      have hg0 := (HG.out wr BR.out).1
      have hg1 := (HG.out wr BR.out).2
      rcases (show j = 0 ∨ j = 1 ∨ j = 2 by omega) with rfl | rfl | rfl
      · have HWW := Lib.hid (HW.out wr BR.out)
        by_cases hb : 0 ≤ Lib.indexByte s but
        · rw [if_pos hb] at HWW
          have HE : Hid (res = ([], 0, 7)) := Lib.hid (by rw [HS.out, if_neg (by simp), if_pos hb])
          go_wp2_with fail
          refine HWW.out.mono ?_
          rintro e w2 ⟨rfl, rfl⟩
          go_wp2
          go_ret3
          rw [HE.out]
          exact ⟨rfl, BR.out⟩
        · rw [if_neg hb] at HWW
          have HB := Lib.hid hb
          clear hb
          go_wp2_with fail
          refine HWW.out.mono ?_
          rintro e w2 ⟨rfl, rfl⟩
          go_wp2
          go_roundg (2)
          case measure => have := hg.out; omega
          case rel => exact ⟨1, by omega, Lib.hid (by omega), rfl, BR, Lib.hid ⟨fun _ => HB.out, fun h => absurd h (by omega)⟩⟩
      · have HRR := Lib.hid (HR.out wr BR.out)
        generalize hr : (refsOut s).2 = r at *
        by_cases hb : r = 0
        · have HB := Lib.hid hb
          subst hb
          go_wp2_with fail
          refine HRR.out.mono ?_
          rintro e w2 ⟨rfl, hb⟩
          have B2 : Hid (Below w.heap.size w w2) := Lib.hid (BR.out.trans (hb.mono BR.out.size))
          clear hb
          go_wp2
          go_roundg (1)
          case measure => have := hg.out; omega
          case rel => exact ⟨2, by omega, Lib.hid (by omega), rfl, B2, Lib.hid ⟨fun _ => HJ.out.1 (by omega), fun _ => by trivial⟩⟩
        · have HE : Hid (res = ([], 0, r)) := Lib.hid (by rw [HS.out, if_neg (by simp), if_neg (HJ.out.1 (by omega)), if_pos hb])
          have hrz : ((r : Int) != 0) = true := by simp; omega
          clear hb hr
          go_wp2_with fail
          refine HRR.out.mono ?_
          rintro e w2 ⟨rfl, hb⟩
          have B2 : Hid (Below w.heap.size w w2) := Lib.hid (BR.out.trans (hb.mono BR.out.size))
          clear hb
          go_wp2
          go_ret3
          rw [HE.out]
          exact ⟨rfl, B2.out⟩
      · have HE : Hid (res = (s, k, 0)) := Lib.hid (by rw [HS.out, if_neg (by simp), if_neg (HJ.out.1 (by omega)), if_neg (by rw [HJ.out.2 (by omega)]; simp)])
        go_wp2
        go_ret3
        rw [HE.out]
        exact ⟨rfl, BR.out⟩
  · have HE : Hid (res = ([], 0, f)) := Lib.hid (by rw [HS.out, if_pos hf])
    have hfz : ((f : Int) != 0) = true := by simp; omega
    clear hf
    go_enter Tryd.func102, Tryd.ntmps102
    go_wp2_with fail
    refine HQ.out.mono ?_
    rintro e w1 ⟨rfl, m, hw1⟩
    have B1 : Hid (Below w.heap.size w w1) := Lib.hid (by rw [hw1]; exact below_drewN' (Below.refl _ _))
    clear hw1
    go_wp2
    go_ret3
    rw [HE.out]
    exact ⟨rfl, B1.out⟩
set_option maxRecDepth 100000 in
set_option maxHeartbeats 4000000 in
theorem litValue_c (A : Option Addr) (n cap : Nat) (l : List UInt8) (at_ : Int) (w : World) (h : Byt w w.heap.size A n cap l) (hT : Tabs w) (hF : Forms w) (hm : n ≤ 40000) :
    Calls Tryd.prog 77 #[.slice A n cap, .int .i64 at_] w fun e w' => e = .returned (outV (strictAt 60 l at_)) ∧ Below w.heap.size w w' := by
  have hL := hT.low hF
  have b1 : Below w.heap.size w (w.alloc (.cells #[.int .u8 60] 5)) := (Below.refl _ _).alloc (Nat.le_refl _) _
  have b2 : Below w.heap.size w ((w.alloc (.cells #[.int .u8 60] 5)).alloc (.cells #[wV w.heap.size, .func (.func 104) #[] #[]] 132)) := b1.alloc (by simp) _
  have hg := hp_new (w.alloc (.cells #[.int .u8 60] 5)) (.cells #[wV w.heap.size, .func (.func 104) #[] #[]] 132)
  have ha : ((w.alloc (.cells #[.int .u8 60] 5)).alloc (.cells #[wV w.heap.size, .func (.func 104) #[] #[]] 132)).cell? ⟨w.heap.size, 0, none⟩ = some (.int .u8 (60 : UInt8).toNat) := by
    rw [cell_of 0 (hp_old (hp_new w _))]; rfl
  have c1 := litRead_c A n cap l at_ 60 w.heap.size _ _ ((h.below b2).more b2.size) (hT.below b2 hL) (hF.below b2 hF.lt) hm ha (by simp; omega) hg
  rw [show (w.alloc (.cells #[.int .u8 60] 5)).heap.size = w.heap.size + 1 by simp] at c1
  have hs2 : ((w.alloc (.cells #[.int .u8 60] 5)).alloc (.cells #[wV w.heap.size, .func (.func 104) #[] #[]] 132)).heap.size = w.heap.size + 2 := by simp
  have C1 := Lib.hid c1
  have HB2 := Lib.hid b2
  have HS2 := Lib.hid hs2
  clear c1 b1 b2 hg ha hs2 h hT hF hL
  generalize strictAt 60 l at_ = res at *
  obtain ⟨s, k, f⟩ := res
  unfold outV wV at *
  go_enter Tryd.func77, Tryd.ntmps77
  go_wp2_with fail
  refine (without_c 60 w).mono ?_
  rintro e w1 ⟨rfl, rfl⟩
  unfold wV
  go_wp2_with fail
  refine C1.out.mono ?_
  rintro e w2 ⟨rfl, hb⟩
  have B2 : Hid (Below w.heap.size w w2) := Lib.hid (HB2.out.trans (hb.mono (by rw [HS2.out]; omega)))
  clear hb
  go_wp2
  go_ret3
  exact ⟨rfl, B2.out⟩
end Go.Proofs.YtpblphddpcogcaaDoor
