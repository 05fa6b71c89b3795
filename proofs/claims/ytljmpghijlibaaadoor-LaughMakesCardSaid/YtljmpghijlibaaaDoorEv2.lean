/- Are all characters of bytes such as a document may hold? Of the program, and of the document. -/
import Derived.Test.YtljmpghijlibaaaDoorRows
import Derived.WalkKit
import Derived.ProofKit
import Derived.OpenShut
import Derived.ShutString
import Derived.ChangeOld
import Derived.Below
import Derived.BigQuiet
import Derived.Deep.QuietTactic
import Derived.Lib.Hide
import Derived.Deep.RegionHeld3
import Derived.Lib.SlBytesConst
import Derived.Laws.CopyOwn
import Derived.Laws.CopyRow
import Derived.Lib.Bytes
import Derived.Deep.LoopGhost
import Derived.Deep.DeepFit
import Derived.Deep.DeepMust
import Derived.WalkSpells
import Derived.WalkLawsBesides
import Derived.Test.YtljmpghijlibaaaDoorShelf
import Derived.Test.YtljmpghijlibaaaDoorBase
import Derived.Test.YtljmpghijlibaaaDoorCharPlain
import Derived.Test.YtljmpghijlibaaaDoorStr
import Derived.Test.YtljmpghijlibaaaDoorChars1
import Derived.Test.YtljmpghijlibaaaDoorUtf1
import Derived.Test.YtljmpghijlibaaaDoorUtf2
import Derived.Test.YtljmpghijlibaaaDoorUtf3
import Derived.Test.YtljmpghijlibaaaDoorName1
import Derived.Test.YtljmpghijlibaaaDoorName2
import Derived.Test.YtljmpghijlibaaaDoorName3
import Derived.Test.YtljmpghijlibaaaDoorCref1
import Derived.Test.YtljmpghijlibaaaDoorY2
import Derived.Test.YtljmpghijlibaaaDoorY3
import Derived.Test.YtljmpghijlibaaaDoorRef1
import Derived.Test.YtljmpghijlibaaaDoorRef3
import Derived.Test.YtljmpghijlibaaaDoorPub
import Derived.Test.YtljmpghijlibaaaDoorRun
import Derived.Test.YtljmpghijlibaaaDoorRunU
import Derived.Test.YtljmpghijlibaaaDoorRunV
namespace Go.Proofs.YtljmpghijlibaaaDoor
open Go.ChangeShapes Go.WideShapes Go.ChangeAt Go.RowKit
set_option linter.unusedVariables false
theorem cls_doc (r : Int) : (clsN r / 2 ^ 0) % 2 = oneB (isDoc r) := by
  have l1 := oneB_le (isDoc r)
  unfold clsN
  omega
set_option maxRecDepth 100000 in
set_option maxHeartbeats 4000000 in
theorem refAllD_c (A : Option Addr) (n cap : Nat) (l : List UInt8) (w : World) (h : Byt w w.heap.size A n cap l) (hm : n ≤ 50000) :
    Calls Tryd.prog 58 #[.slice A n cap, .int .i64 0] w fun e w' => e = .returned (.bool (allOut isDoc l)) ∧ Below w.heap.size w w' := by
  have HR := Lib.hid (refRunes_c A n cap l w h hm)
  have hrl := runesL_le l.length l
  rw [h.length] at hrl
  have HIS : Hid (∀ (r : Nat) (w1 : World), r ≤ 1114111 → Calls Tryd.prog 86 #[.int .i64 0, .int .i64 (r : Int)] w1 fun e w' => e = .returned (.bool (isDoc (r : Int))) ∧ w1 = w') := Lib.hid fun r w1 hr => (refIs_c 0 (by omega) (r : Int) w1 (by omega) (by omega)).mono fun e w' ⟨he, hw⟩ => ⟨by
    rw [he, cls_doc]
    cases isDoc (r : Int) <;> rfl, hw⟩
  have HRL : Hid ((∀ r ∈ (runesOut l).1, r ≤ 1114111) ∧ (runesOut l).1.length ≤ n) := Lib.hid (by unfold runesOut; rw [← h.length] at *; exact hrl)
  have HA : Hid (allOut isDoc l = ((runesOut l).2 && (runesOut l).1.all fun r => isDoc (r : Int))) := Lib.hid rfl
  clear h hrl
  generalize allOut isDoc l = res at *
  unfold RunesP at HR
  generalize runesOut l = ro at *
  obtain ⟨rs, ok⟩ := ro
  simp only at HR HRL HA
  go_enter Tryd.func58, Tryd.ntmps58
  go_wp2_with fail
  refine HR.out.mono ?_
  rintro e w1 ⟨hb, ⟨hok, A', c', rfl, hrd⟩ | ⟨hok, z, hz, rfl⟩⟩
  · have B1 := Lib.hid hb
    have HOK := Lib.hid hok
    have HRD := Lib.hid hrd
    clear hb hok hrd
    go_wp2
    go_loopg [7] (rs.length) (fun g i wr => ∃ t : Nat, t ≤ rs.length ∧ Hid (g + t = rs.length) ∧ i = .int .i64 (t : Int) ∧ w1 = wr ∧ Hid ((rs.take t).all (fun r => isDoc (r : Int)) = true))
    case atStart => exact ⟨0, Nat.zero_le _, Lib.hid rfl, rfl, rfl, Lib.hid rfl⟩
    case round =>
      obtain ⟨t, ht, hg, rfl, rfl, HN⟩ := hrel
      have ht0 : (0 : Int) ≤ (t : Int) := by omega
      have htb : (t : Int) ≤ 50000 := by have := HRL.out.2; omega
      by_cases htn : t < rs.length
      · have htni : (t : Int) < (rs.length : Int) := by omega
        have hrt : rs[t]? = some (rs.getD t 0) := by rw [List.getElem?_eq_getElem htn]; simp [htn]
        obtain ⟨b, o, e, hbb, hcl⟩ := HRD.out.at_ (by have := HRD.out.le; omega)
        subst e
        have hcell := hcl t (iv (rs.getD t 0)) (by rw [List.getElem?_map, hrt]; rfl)
        have HAT := Lib.hid (all_take isDoc rs t _ hrt)
        have HMEM := Lib.hid (HRL.out.1 _ (List.mem_of_getElem? hrt))
        have HAL : Hid (isDoc (rs.getD t 0 : Int) = false → (rs.all fun r => isDoc (r : Int)) = false) := Lib.hid (fun h => by
          rw [List.all_eq_false]
          exact ⟨_, List.mem_of_getElem? hrt, by rw [h]; simp⟩)
        unfold iv at hcell
        clear hcl hrt hbb
        generalize rs.getD t 0 = r at *
        have HII := Lib.hid (HIS.out r w1 HMEM.out)
        cases hp : isDoc (r : Int) with
        | true =>
          have HN2 : Hid ((rs.take (t + 1)).all (fun r => isDoc (r : Int)) = true) := Lib.hid (by rw [HAT.out, HN.out, hp]; rfl)
          rw [hp] at HII
          clear hp
          go_wp2_with fail
          refine HII.out.mono ?_
          rintro e w2 ⟨rfl, rfl⟩
          go_wp2
          go_roundg (rs.length - (t + 1))
          case measure => have := hg.out; omega
          case rel => exact ⟨t + 1, by omega, Lib.hid (by omega), by go_num, rfl, HN2⟩
        | false =>
          have HE : Hid (res = false) := Lib.hid (by rw [HA.out, HAL.out hp]; simp)
          rw [hp] at HII
          clear hp
          go_wp2_with fail
          refine HII.out.mono ?_
          rintro e w2 ⟨rfl, rfl⟩
          go_wp2
          go_ret
          rw [HE.out]
          exact ⟨rfl, B1.out⟩
      · have htni : ¬ (t : Int) < (rs.length : Int) := by omega
        have HE : Hid (res = true) := Lib.hid (by
          have := HN.out
          rw [List.take_of_length_le (by omega)] at this
          rw [HA.out, HOK.out, this]; rfl)
        go_wp2
        go_ret
        rw [HE.out]
        exact ⟨rfl, B1.out⟩
  · have B1 := Lib.hid hb
    have HE : Hid (res = false) := Lib.hid (by rw [HA.out, hok]; rfl)
    have hd : decide (0 ≤ z) = true := by simpa using hz
    clear hb hok hz
    go_wp2
    go_ret
    rw [HE.out]
    exact ⟨rfl, B1.out⟩
set_option maxRecDepth 100000 in
set_option maxHeartbeats 4000000 in
theorem charsAllD_c (A : Option Addr) (n cap : Nat) (l : List UInt8) (w : World) (h : Byt w w.heap.size A n cap l) (hF : Forms w) (hT : Tabs w) (hm : n ≤ 1100000) :
    Calls Tryd.prog 61 #[.slice A n cap, .func (.func 62) #[] #[]] w fun e w' => e = .returned (.bool (allOut isDoc l)) ∧ Below w.heap.size w w' := by
  have HR := Lib.hid (utfRunes_c A n cap l w h hF hm)
  have hrl := runesL_le l.length l
  rw [h.length] at hrl
  have HRL : Hid ((runesOut l).1.length ≤ n) := Lib.hid (by unfold runesOut; rw [← h.length] at *; exact hrl.2)
  have HA : Hid (allOut isDoc l = ((runesOut l).2 && (runesOut l).1.all fun r => isDoc (r : Int))) := Lib.hid rfl
  have hnil : ∀ w : World, (binOp .eql 75 (.func (.func 62) #[] #[]) .nilFunc).run Tryd.prog w = .ok (.bool false) w := fun w => by kernel_rfl
  have ec : ∀ args w, (callFunc 62 args).run Tryd.prog w = .ok (.enter 62 args) w := enters_of Tryd.func62 (by kernel_rfl) rfl
  have HT := Lib.hid hT
  have HTL := Lib.hid (hT.low hF)
  clear h hrl hF hT
  generalize allOut isDoc l = res at *
  unfold RunesP at HR
  generalize runesOut l = ro at *
  obtain ⟨rs, ok⟩ := ro
  simp only at HR HRL HA
  go_enter Tryd.func61, Tryd.ntmps61
  go_wp2_with fail
  refine HR.out.mono ?_
  rintro e w1 ⟨hb, ⟨hok, A', c', rfl, hrd⟩ | ⟨hok, z, hz, rfl⟩⟩
  · have B1 := Lib.hid hb
    have HOK := Lib.hid hok
    have HRD := Lib.hid hrd
    clear hb hok hrd
    go_wp2
    go_loopg [22] (rs.length) (fun g i wr => ∃ t : Nat, t ≤ rs.length ∧ Hid (g + t = rs.length) ∧ i = .int .i64 (t : Int) ∧ Hid (Below w1.heap.size w1 wr) ∧ Hid ((rs.take t).all (fun r => isDoc (r : Int)) = true))
    case atStart => exact ⟨0, Nat.zero_le _, Lib.hid rfl, rfl, Lib.hid (Below.refl _ _), Lib.hid rfl⟩
    case round =>
      obtain ⟨t, ht, hg, rfl, HBW, HN⟩ := hrel
      have HBA := Lib.hid (B1.out.trans (HBW.out.mono B1.out.size))
      have ht0 : (0 : Int) ≤ (t : Int) := by omega
      have htb : (t : Int) ≤ 1100000 := by have := HRL.out; omega
      by_cases htn : t < rs.length
      · have htni : (t : Int) < (rs.length : Int) := by omega
        have hrt : rs[t]? = some (rs.getD t 0) := by rw [List.getElem?_eq_getElem htn]; simp [htn]
        obtain ⟨b, o, e, hbb, hcl⟩ := (HRD.out.below HBW.out).at_ (by have := HRD.out.le; omega)
        subst e
        have hcell := hcl t (iv (rs.getD t 0)) (by rw [List.getElem?_map, hrt]; rfl)
        have HAT := Lib.hid (all_take isDoc rs t _ hrt)
        have HAL : Hid (isDoc (rs.getD t 0 : Int) = false → (rs.all fun r => isDoc (r : Int)) = false) := Lib.hid (fun h => by
          rw [List.all_eq_false]
          exact ⟨_, List.mem_of_getElem? hrt, by rw [h]; simp⟩)
        unfold iv at hcell
        clear hcl hrt hbb
        generalize rs.getD t 0 = r at *
        have HII := Lib.hid (char_c (r : Int) wr (HT.out.below HBA.out HTL.out))
        cases hp : isDoc (r : Int) with
        | true =>
          have HN2 : Hid ((rs.take (t + 1)).all (fun r => isDoc (r : Int)) = true) := Lib.hid (by rw [HAT.out, HN.out, hp]; rfl)
          rw [hp] at HII
          clear hp
          go_wp2_with fail
          refine HII.out.mono ?_
          rintro e w2 ⟨rfl, hb2⟩
          have HBW2 := Lib.hid (HBW.out.trans (hb2.mono HBW.out.size))
          clear hb2
          go_wp2
          go_roundg (rs.length - (t + 1))
          case measure => have := hg.out; omega
          case rel => exact ⟨t + 1, by omega, Lib.hid (by omega), by go_num, HBW2, HN2⟩
        | false =>
          have HE : Hid (res = false) := Lib.hid (by rw [HA.out, HAL.out hp]; simp)
          rw [hp] at HII
          clear hp
          go_wp2_with fail
          refine HII.out.mono ?_
          rintro e w2 ⟨rfl, hb2⟩
          have HBE := Lib.hid (HBA.out.trans (hb2.mono HBA.out.size))
          clear hb2
          go_wp2
          go_ret
          rw [HE.out]
          exact ⟨rfl, HBE.out⟩
      · have htni : ¬ (t : Int) < (rs.length : Int) := by omega
        have HE : Hid (res = true) := Lib.hid (by
          have := HN.out
          rw [List.take_of_length_le (by omega)] at this
          rw [HA.out, HOK.out, this]; rfl)
        go_wp2
        go_ret
        rw [HE.out]
        exact ⟨rfl, HBA.out⟩
  · have B1 := Lib.hid hb
    have HE : Hid (res = false) := Lib.hid (by rw [HA.out, hok]; rfl)
    subst hz
    clear hb hok
    go_wp2
    go_ret
    rw [HE.out]
    exact ⟨rfl, B1.out⟩
end Go.Proofs.YtljmpghijlibaaaDoor
