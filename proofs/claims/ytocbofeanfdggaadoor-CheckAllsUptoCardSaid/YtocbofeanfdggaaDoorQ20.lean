/- Texts of ours, joined: Ev2, CkH. -/
import Derived.Test.YtocbofeanfdggaaDoorRows
import Derived.WalkKit
import Derived.ProofKit
import Derived.OpenShut
import Derived.ShutString
import Derived.ChangeOld
import Derived.Below
import Derived.BigQuiet
import Derived.Deep.QuietTactic
import Derived.Lib.Hide
import Derived.Deep.RegionHeld3
import Derived.Lib.SlBytesConst
import Derived.Laws.CopyOwn
import Derived.Laws.CopyRow
import Derived.Lib.Bytes
import Derived.Deep.LoopGhost
import Derived.Deep.DeepFit
import Derived.Deep.DeepMust
import Derived.WalkSpells
import Derived.WalkLawsBesides
import Derived.Test.YtocbofeanfdggaaDoorQ1
import Derived.Test.YtocbofeanfdggaaDoorQ2
import Derived.Test.YtocbofeanfdggaaDoorQ5
import Derived.Test.YtocbofeanfdggaaDoorQ3
import Derived.Test.YtocbofeanfdggaaDoorQ4
import Derived.Test.YtocbofeanfdggaaDoorQ6
import Derived.Test.YtocbofeanfdggaaDoorQ11
import Derived.Test.YtocbofeanfdggaaDoorQ8
import Derived.Test.YtocbofeanfdggaaDoorQ12
import Derived.Test.YtocbofeanfdggaaDoorQ13
import Derived.Test.YtocbofeanfdggaaDoorQ19
import Derived.Maps.OwnOps
import Derived.Maps.OwnSet
import Derived.Maps.Views
import Derived.Laws.EntriesVeiled
import Derived.Laws.Rows
import Derived.Maps.AppendAt
import Derived.Lib.SmallJoins
import Derived.Deep.AppendLies
import Derived.Deep.RegionLaw
import Derived.Deep.RegionWith
import Derived.Test.YtocbofeanfdggaaDoorQ14
import Derived.Test.YtocbofeanfdggaaDoorQ17
import Derived.Test.YtocbofeanfdggaaDoorQ18
/- Are all characters of bytes such as a document may hold? Of the program, and of the document. -/
namespace Go.Proofs.YtocbofeanfdggaaDoor
open Go.ChangeShapes Go.WideShapes Go.ChangeAt Go.RowKit
set_option linter.unusedVariables false
theorem cls_doc (r : Int) : (clsN r / 2 ^ 0) % 2 = oneB (isDoc r) := by
  have l1 := oneB_le (isDoc r)
  unfold clsN
  omega
set_option maxRecDepth 100000 in
set_option maxHeartbeats 4000000 in
theorem refAllD_c (A : Option Addr) (n cap : Nat) (l : List UInt8) (w : World) (h : Byt w w.heap.size A n cap l) (hm : n ≤ 50000) :
    Calls Tryd.prog 49 #[.slice A n cap, .int .i64 0] w fun e w' => e = .returned (.bool (allOut isDoc l)) ∧ Below w.heap.size w w' := by
  have HR := Lib.hid (refRunes_c A n cap l w h hm)
  have hrl := runesL_le l.length l
  rw [h.length] at hrl
  have HIS : Hid (∀ (r : Nat) (w1 : World), r ≤ 1114111 → Calls Tryd.prog 70 #[.int .i64 0, .int .i64 (r : Int)] w1 fun e w' => e = .returned (.bool (isDoc (r : Int))) ∧ w1 = w') := Lib.hid fun r w1 hr => (refIs_c 0 (by omega) (r : Int) w1 (by omega) (by omega)).mono fun e w' ⟨he, hw⟩ => ⟨by
    rw [he, cls_doc]
    cases isDoc (r : Int) <;> rfl, hw⟩
  have HRL : Hid ((∀ r ∈ (runesOut l).1, r ≤ 1114111) ∧ (runesOut l).1.length ≤ n) := Lib.hid (by unfold runesOut; rw [← h.length] at *; exact hrl)
  have HA : Hid (allOut isDoc l = ((runesOut l).2 && (runesOut l).1.all fun r => isDoc (r : Int))) := Lib.hid rfl
  clear h hrl
  generalize allOut isDoc l = res at *
  unfold RunesP at HR
  generalize runesOut l = ro at *
  obtain ⟨rs, ok⟩ := ro
  simp only at HR HRL HA
  go_enter Tryd.func49, Tryd.ntmps49
  go_wp2_with fail
  refine HR.out.mono ?_
  rintro e w1 ⟨hb, ⟨hok, A', c', rfl, hrd⟩ | ⟨hok, z, hz, rfl⟩⟩
  · have B1 := Lib.hid hb
    have HOK := Lib.hid hok
    have HRD := Lib.hid hrd
    clear hb hok hrd
    go_wp2
    go_loopg [7] (rs.length) (fun g i wr => ∃ t : Nat, t ≤ rs.length ∧ Hid (g + t = rs.length) ∧ i = .int .i64 (t : Int) ∧ w1 = wr ∧ Hid ((rs.take t).all (fun r => isDoc (r : Int)) = true))
    case atStart => exact ⟨0, Nat.zero_le _, Lib.hid rfl, rfl, rfl, Lib.hid rfl⟩
    case round =>
      obtain ⟨t, ht, hg, rfl, rfl, HN⟩ := hrel
      have ht0 : (0 : Int) ≤ (t : Int) := by omega
      have htb : (t : Int) ≤ 50000 := by have := HRL.out.2; omega
      by_cases htn : t < rs.length
      · have htni : (t : Int) < (rs.length : Int) := by omega
        have hrt : rs[t]? = some (rs.getD t 0) := by rw [List.getElem?_eq_getElem htn]; simp [htn]
        obtain ⟨b, o, e, hbb, hcl⟩ := HRD.out.at_ (by have := HRD.out.le; omega)
        subst e
        have hcell := hcl t (iv (rs.getD t 0)) (by rw [List.getElem?_map, hrt]; rfl)
        have HAT := Lib.hid (all_take isDoc rs t _ hrt)
        have HMEM := Lib.hid (HRL.out.1 _ (List.mem_of_getElem? hrt))
        have HAL : Hid (isDoc (rs.getD t 0 : Int) = false → (rs.all fun r => isDoc (r : Int)) = false) := Lib.hid (fun h => by
          rw [List.all_eq_false]
          exact ⟨_, List.mem_of_getElem? hrt, by rw [h]; simp⟩)
        unfold iv at hcell
        clear hcl hrt hbb
        generalize rs.getD t 0 = r at *
        have HII := Lib.hid (HIS.out r w1 HMEM.out)
        cases hp : isDoc (r : Int) with
        | true =>
          have HN2 : Hid ((rs.take (t + 1)).all (fun r => isDoc (r : Int)) = true) := Lib.hid (by rw [HAT.out, HN.out, hp]; rfl)
          rw [hp] at HII
          clear hp
          go_wp2_with fail
          refine HII.out.mono ?_
          rintro e w2 ⟨rfl, rfl⟩
          go_wp2
          go_roundg (rs.length - (t + 1))
          case measure => have := hg.out; omega
          case rel => exact ⟨t + 1, by omega, Lib.hid (by omega), by go_num, rfl, HN2⟩
        | false =>
          have HE : Hid (res = false) := Lib.hid (by rw [HA.out, HAL.out hp]; simp)
          rw [hp] at HII
          clear hp
          go_wp2_with fail
          refine HII.out.mono ?_
          rintro e w2 ⟨rfl, rfl⟩
          go_wp2
          go_ret
          rw [HE.out]
          exact ⟨rfl, B1.out⟩
      · have htni : ¬ (t : Int) < (rs.length : Int) := by omega
        have HE : Hid (res = true) := Lib.hid (by
          have := HN.out
          rw [List.take_of_length_le (by omega)] at this
          rw [HA.out, HOK.out, this]; rfl)
        go_wp2
        go_ret
        rw [HE.out]
        exact ⟨rfl, B1.out⟩
  · have B1 := Lib.hid hb
    have HE : Hid (res = false) := Lib.hid (by rw [HA.out, hok]; rfl)
    have hd : decide (0 ≤ z) = true := by simpa using hz
    clear hb hok hz
    go_wp2
    go_ret
    rw [HE.out]
    exact ⟨rfl, B1.out⟩
set_option maxRecDepth 100000 in
set_option maxHeartbeats 4000000 in
theorem charsAllD_c (A : Option Addr) (n cap : Nat) (l : List UInt8) (w : World) (h : Byt w w.heap.size A n cap l) (hF : Forms w) (hT : Tabs w) (hm : n ≤ 1100000) :
    Calls Tryd.prog 82 #[.slice A n cap, .func (.func 83) #[] #[]] w fun e w' => e = .returned (.bool (allOut isDoc l)) ∧ Below w.heap.size w w' := by
  have HR := Lib.hid (utfRunes_c A n cap l w h hF hm)
  have hrl := runesL_le l.length l
  rw [h.length] at hrl
  have HRL : Hid ((runesOut l).1.length ≤ n) := Lib.hid (by unfold runesOut; rw [← h.length] at *; exact hrl.2)
  have HA : Hid (allOut isDoc l = ((runesOut l).2 && (runesOut l).1.all fun r => isDoc (r : Int))) := Lib.hid rfl
  have hnil : ∀ w : World, (binOp .eql 102 (.func (.func 83) #[] #[]) .nilFunc).run Tryd.prog w = .ok (.bool false) w := fun w => by kernel_rfl
  have ec : ∀ args w, (callFunc 83 args).run Tryd.prog w = .ok (.enter 83 args) w := enters_of Tryd.func83 (by kernel_rfl) rfl
  have HT := Lib.hid hT
  have HTL := Lib.hid (hT.low hF)
  clear h hrl hF hT
  generalize allOut isDoc l = res at *
  unfold RunesP at HR
  generalize runesOut l = ro at *
  obtain ⟨rs, ok⟩ := ro
  simp only at HR HRL HA
  go_enter Tryd.func82, Tryd.ntmps82
  go_wp2_with fail
  refine HR.out.mono ?_
  rintro e w1 ⟨hb, ⟨hok, A', c', rfl, hrd⟩ | ⟨hok, z, hz, rfl⟩⟩
  · have B1 := Lib.hid hb
    have HOK := Lib.hid hok
    have HRD := Lib.hid hrd
    clear hb hok hrd
    go_wp2
    go_loopg [22] (rs.length) (fun g i wr => ∃ t : Nat, t ≤ rs.length ∧ Hid (g + t = rs.length) ∧ i = .int .i64 (t : Int) ∧ Hid (Below w1.heap.size w1 wr) ∧ Hid ((rs.take t).all (fun r => isDoc (r : Int)) = true))
    case atStart => exact ⟨0, Nat.zero_le _, Lib.hid rfl, rfl, Lib.hid (Below.refl _ _), Lib.hid rfl⟩
    case round =>
      obtain ⟨t, ht, hg, rfl, HBW, HN⟩ := hrel
      have HBA := Lib.hid (B1.out.trans (HBW.out.mono B1.out.size))
      have ht0 : (0 : Int) ≤ (t : Int) := by omega
      have htb : (t : Int) ≤ 1100000 := by have := HRL.out; omega
      by_cases htn : t < rs.length
      · have htni : (t : Int) < (rs.length : Int) := by omega
        have hrt : rs[t]? = some (rs.getD t 0) := by rw [List.getElem?_eq_getElem htn]; simp [htn]
        obtain ⟨b, o, e, hbb, hcl⟩ := (HRD.out.below HBW.out).at_ (by have := HRD.out.le; omega)
        subst e
        have hcell := hcl t (iv (rs.getD t 0)) (by rw [List.getElem?_map, hrt]; rfl)
        have HAT := Lib.hid (all_take isDoc rs t _ hrt)
        have HAL : Hid (isDoc (rs.getD t 0 : Int) = false → (rs.all fun r => isDoc (r : Int)) = false) := Lib.hid (fun h => by
          rw [List.all_eq_false]
          exact ⟨_, List.mem_of_getElem? hrt, by rw [h]; simp⟩)
        unfold iv at hcell
        clear hcl hrt hbb
        generalize rs.getD t 0 = r at *
        have HII := Lib.hid (char_c (r : Int) wr (HT.out.below HBA.out HTL.out))
        cases hp : isDoc (r : Int) with
        | true =>
          have HN2 : Hid ((rs.take (t + 1)).all (fun r => isDoc (r : Int)) = true) := Lib.hid (by rw [HAT.out, HN.out, hp]; rfl)
          rw [hp] at HII
          clear hp
          go_wp2_with fail
          refine HII.out.mono ?_
          rintro e w2 ⟨rfl, hb2⟩
          have HBW2 := Lib.hid (HBW.out.trans (hb2.mono HBW.out.size))
          clear hb2
          go_wp2
          go_roundg (rs.length - (t + 1))
          case measure => have := hg.out; omega
          case rel => exact ⟨t + 1, by omega, Lib.hid (by omega), by go_num, HBW2, HN2⟩
        | false =>
          have HE : Hid (res = false) := Lib.hid (by rw [HA.out, HAL.out hp]; simp)
          rw [hp] at HII
          clear hp
          go_wp2_with fail
          refine HII.out.mono ?_
          rintro e w2 ⟨rfl, hb2⟩
          have HBE := Lib.hid (HBA.out.trans (hb2.mono HBA.out.size))
          clear hb2
          go_wp2
          go_ret
          rw [HE.out]
          exact ⟨rfl, HBE.out⟩
      · have htni : ¬ (t : Int) < (rs.length : Int) := by omega
        have HE : Hid (res = true) := Lib.hid (by
          have := HN.out
          rw [List.take_of_length_le (by omega)] at this
          rw [HA.out, HOK.out, this]; rfl)
        go_wp2
        go_ret
        rw [HE.out]
        exact ⟨rfl, HBA.out⟩
  · have B1 := Lib.hid hb
    have HE : Hid (res = false) := Lib.hid (by rw [HA.out, hok]; rfl)
    subst hz
    clear hb hok
    go_wp2
    go_ret
    rw [HE.out]
    exact ⟨rfl, B1.out⟩
end Go.Proofs.YtocbofeanfdggaaDoor
/- check.may, a closure of spaced. -/
namespace Go.Proofs.YtocbofeanfdggaaDoor
open Go.ChangeShapes Go.WideShapes Go.ChangeAt Go.RowKit
set_option linter.unusedVariables false
set_option maxRecDepth 100000 in
set_option maxHeartbeats 4000000 in
theorem may_c (s : List UInt8) (w : World) (hT : Tabs w) (hF : Forms w) (hm : s.length ≤ 1000000) : Calls Tryd.prog 60 #[.string ⟨s.toArray⟩] w fun e w' => e = .returned (.bool (allOut isDoc s)) ∧ Below w.heap.size w w' := by
  have cv := run_toBytes w s
  have hb1 := Lib.bytesWorld_below w 5 ⟨s.toArray⟩
  have C1 := Lib.hid (charsAllD_c _ _ _ s (Lib.bytesWorld w 5 ⟨s.toArray⟩) ((byt_new w s (by omega)).more (Nat.le_of_eq (Lib.bytesWorld_size _ _ _).symm)) (hF.below hb1 hF.lt) (hT.below hb1 (hT.low hF)) (by omega))
  have HB := Lib.hid hb1
  clear hT hF hb1
  generalize allOut isDoc s = b at *
  go_enter Tryd.func60, Tryd.ntmps60
  go_wp2_with fail
  refine C1.out.mono ?_
  rintro e w1 ⟨rfl, hb⟩
  have HB2 := Lib.hid (HB.out.trans (hb.mono HB.out.size))
  clear hb
  go_wp2
  go_ret
  exact ⟨rfl, HB2.out⟩
theorem xmlns_eq (sp : List UInt8) : (sp == xmlnsS) = decide (sp = xmlnsS) := by
  rw [Bool.eq_iff_iff, beq_iff_eq, decide_eq_true_eq]
set_option maxRecDepth 100000 in
set_option maxHeartbeats 4000000 in
theorem spaced1_c (sp lo : List UInt8) (w : World) : Calls Tryd.prog 65 #[.agg #[.string ⟨sp.toArray⟩, .string ⟨lo.toArray⟩]] w fun e w' => e = .returned (.bool (decide (sp = xmlnsS))) ∧ Below w.heap.size w w' := by
  have J0 := Lib.hid (CJ.start 37 w #[.string ⟨sp.toArray⟩, .string ⟨lo.toArray⟩])
  have z0 := cell_of 0 J0.out.2
  have he := xmlns_eq sp
  unfold xmlnsS at *
  generalize decide (sp = [104, 116, 116, 112, 58, 47, 47, 119, 119, 119, 46, 119, 51, 46, 111, 114, 103, 47, 50, 48, 48, 48, 47, 120, 109, 108, 110, 115, 47]) = b at *
  go_enter Tryd.func65, Tryd.ntmps65
  go_wp2
  go_ret
  exact ⟨by first | rfl | simp [he] | (rw [he]; rfl), J0.out.1⟩
end Go.Proofs.YtocbofeanfdggaaDoor
