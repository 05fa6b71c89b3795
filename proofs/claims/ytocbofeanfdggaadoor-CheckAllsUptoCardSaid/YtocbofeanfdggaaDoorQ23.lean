/- Texts of ours, joined: CkB, StO. -/
import Derived.Test.YtocbofeanfdggaaDoorRows
import Derived.WalkKit
import Derived.ProofKit
import Derived.OpenShut
import Derived.ShutString
import Derived.ChangeOld
import Derived.Below
import Derived.BigQuiet
import Derived.Deep.QuietTactic
import Derived.Lib.Hide
import Derived.Deep.RegionHeld3
import Derived.Lib.SlBytesConst
import Derived.Laws.CopyOwn
import Derived.Laws.CopyRow
import Derived.Lib.Bytes
import Derived.Deep.LoopGhost
import Derived.Deep.DeepFit
import Derived.Deep.DeepMust
import Derived.WalkSpells
import Derived.WalkLawsBesides
import Derived.Maps.OwnOps
import Derived.Maps.OwnSet
import Derived.Maps.Views
import Derived.Laws.EntriesVeiled
import Derived.Laws.Rows
import Derived.Maps.AppendAt
import Derived.Lib.SmallJoins
import Derived.Deep.AppendLies
import Derived.Deep.RegionLaw
import Derived.Deep.RegionWith
import Derived.Lib.IndexAny
import Derived.Test.YtocbofeanfdggaaDoorQ1
import Derived.Test.YtocbofeanfdggaaDoorQ2
import Derived.Test.YtocbofeanfdggaaDoorQ3
import Derived.Test.YtocbofeanfdggaaDoorQ4
import Derived.Test.YtocbofeanfdggaaDoorQ5
import Derived.Test.YtocbofeanfdggaaDoorQ6
import Derived.Test.YtocbofeanfdggaaDoorQ11
import Derived.Test.YtocbofeanfdggaaDoorQ12
import Derived.Test.YtocbofeanfdggaaDoorQ13
import Derived.Test.YtocbofeanfdggaaDoorQ14
import Derived.Test.YtocbofeanfdggaaDoorQ17
import Derived.Test.YtocbofeanfdggaaDoorQ18
import Derived.Test.YtocbofeanfdggaaDoorQ20
import Derived.Test.YtocbofeanfdggaaDoorQ21
import Derived.Test.YtocbofeanfdggaaDoorQ22
import Derived.Deep.DeepHandedRow
import Derived.Deep.SlicePairs
import Derived.Deep.Slices
import Derived.ChangeArms
/- The document's text (of layer 40). -/
namespace Go.Proofs.YtocbofeanfdggaaDoor
open Go.ChangeShapes Go.WideShapes Go.ChangeAt Go.RowKit
set_option linter.unusedVariables false
theorem contains_one (s : List UInt8) (c : UInt8) : Lib.contains s [c] = decide (0 ≤ Lib.indexByte s c) := by
  rw [← Lib.contains_iff_indexByte, Bool.eq_iff_iff, contains_iff s [c] (by simp)]
  constructor
  · rintro ⟨j, hj, h⟩
    have := pre_get h 0 (by simp)
    simp at this ⊢
    exact List.mem_of_getElem? this
  · intro h
    simp at h
    obtain ⟨j, hj, e⟩ := List.getElem_of_mem h
    refine ⟨j, by simp; omega, pre_of_get (fun i hi => ?_)⟩
    simp at hi
    subst hi
    simp [List.getElem?_eq_getElem hj, e]
set_option maxRecDepth 100000 in
set_option maxHeartbeats 8000000 in
theorem refText_c (k : Int) (sp lo tx : List UInt8) (A : Option Addr) (n cap : Nat) (ats : List (List UInt8 × List UInt8 × List UInt8)) (w : World) (h : RRd cA 3 w w.heap.size A n cap ats) (hm : n ≤ 100000) (hp : partsB ⟨k, sp, lo, ats, tx⟩ = true) (htx : tx.length ≤ 5000) (hlo : lo.length ≤ 5000) (hl : ∀ x ∈ namesE ⟨k, sp, lo, ats, tx⟩, x.1.length ≤ 50000) (hv : ∀ x ∈ ats, x.2.2.length ≤ 50000) :
    Calls Tryd.prog 35 #[.agg #[.int .i64 k, .string ⟨sp.toArray⟩, .string ⟨lo.toArray⟩, .slice A n cap, .string ⟨tx.toArray⟩]] w fun e w' => e = .returned (.bool (!textsB ⟨k, sp, lo, ats, tx⟩)) ∧ Below w.heap.size w w' := by
  have J0 := Lib.hid (CJ.start 40 w #[.int .i64 k, .string ⟨sp.toArray⟩, .string ⟨lo.toArray⟩, .slice A n cap, .string ⟨tx.toArray⟩])
  have z0 := cell_of 0 J0.out.2
  have z1 := cell_of 1 J0.out.2
  have z2 := cell_of 2 J0.out.2
  have z3 := cell_of 3 J0.out.2
  have z4 := cell_of 4 J0.out.2
  have hnl : (namesE ⟨k, sp, lo, ats, tx⟩).length ≤ n + 1 := by
    have := h.len
    unfold namesE namesA
    split <;> simp <;> omega
  have hkk := parts_kind hp
  have C1 := Lib.hid (refNames_c k sp lo tx A n cap ats _ ((h.below J0.out.1).more J0.out.1.size) hm hkk)
  have HP : Hid (∀ W, Below w.heap.size w W → RRd cA 3 W W.heap.size A n cap ats) := Lib.hid fun W hb => (h.below hb).more hb.size
  have HLN : Hid (ats.length = n) := Lib.hid h.len
  have HV : Hid (∀ x ∈ ats, x.2.2.length ≤ 50000) := Lib.hid hv
  have HS : Hid (∀ x ∈ namesE ⟨k, sp, lo, ats, tx⟩, x.1.length ≤ 50000) := Lib.hid hl
  have HTX0 : Hid (k = 1 ∨ k = 2 → tx = []) := Lib.hid fun h => parts_tx hp h
  have HKK := Lib.hid hkk
  have HTX := Lib.hid htx
  have HLO := Lib.hid hlo
  have HR0 : Hid ((!textsB ⟨k, sp, lo, ats, tx⟩) = !(spacesB ((namesE ⟨k, sp, lo, ats, tx⟩).drop 0) && (valuesB (ats.drop 0) && ownB ⟨k, sp, lo, ats, tx⟩))) := Lib.hid (by rw [textsB, Bool.and_assoc]; rfl)
  clear h htx hlo hl hv hp hkk
  generalize (!textsB ⟨k, sp, lo, ats, tx⟩) = R at *
  obtain ⟨own, hown⟩ : ∃ x, ownB ⟨k, sp, lo, ats, tx⟩ = x := ⟨_, rfl⟩
  rw [hown] at HR0
  have HOWN := Lib.hid hown
  clear hown
  generalize namesE ⟨k, sp, lo, ats, tx⟩ = l at *
  obtain ⟨m, hll⟩ : ∃ m, l.length = m := ⟨_, rfl⟩
  have HLL := Lib.hid hll
  rw [hll] at C1 hnl
  clear hll
  go_enter Tryd.func35, Tryd.ntmps35
  go_wp2_with fail
  refine C1.out.mono ?_
  rintro e w1 ⟨A2, c2, rfl, hr, hb⟩
  have HB1 := Lib.hid (J0.out.1.trans (hb.mono J0.out.1.size))
  have HBJ := Lib.hid hb
  have HQ : Hid (∀ W, Below w1.heap.size w1 W → RRd cN 2 W W.heap.size A2 m c2 l) := Lib.hid fun W hb => (hr.below hb).more hb.size
  clear hr hb C1 z0 z1 z2 z3 z4
  go_wp2
  go_loopg [4] (m) (fun g i wr => ∃ t : Nat, i = .int .i64 (t : Int) ∧ t ≤ m ∧ Hid (g + t = m) ∧ Hid (R = !(spacesB (l.drop t) && (valuesB (ats.drop 0) && own))) ∧ Hid (Below w1.heap.size w1 wr))
  case atStart => exact ⟨0, rfl, Nat.zero_le _, Lib.hid rfl, HR0, Lib.hid (Below.refl _ _)⟩
  case round =>
    obtain ⟨t, rfl, ht, hg, HA, HB⟩ := hrel
    have ht0 : (0 : Int) ≤ (t : Int) := by omega
    have ht9 : (t : Int) ≤ 100001 := by omega
    by_cases htn : t < m
    · have hti : (t : Int) < (m : Int) := by omega
      obtain ⟨b1, o1, x, rfl, hb1, hx, hc1⟩ := (HQ.out _ HB.out).cell htn
      have hsx := HS.out x (List.mem_of_getElem? hx)
      have hdr : l.drop t = x :: l.drop (t + 1) := by
        have hl := (List.getElem?_eq_some_iff.1 hx).1
        have he : l[t] = x := by rw [List.getElem?_eq_getElem hl] at hx; exact Option.some.inj hx
        rw [List.drop_eq_getElem_cons hl, he]
      have hA := HA.out
      rw [hdr, spacesB, List.all_cons, ← spacesB] at hA
      obtain ⟨xs, xl⟩ := x
      have y0 : wr.cell? ⟨b1, o1 + t * 2, none⟩ = some (.string ⟨xs.toArray⟩) := by rw [show o1 + t * 2 = o1 + (t * 2 + 0) by omega]; exact hc1 0 _ rfl
      have cv := run_toBytes wr xs
      have hcb := Lib.bytesWorld_below wr 5 ⟨xs.toArray⟩
      have C3 := Lib.hid (refAllD_c _ _ _ xs (Lib.bytesWorld wr 5 ⟨xs.toArray⟩) ((byt_new wr xs (by simp only at hsx; omega)).more (Nat.le_of_eq (Lib.bytesWorld_size _ _ _).symm)) (by simp only at hsx; omega))
      have C3b := Lib.hid hcb
      clear hcb
      clear hb1 hx hc1 hdr hsx
      generalize allOut isDoc xs = q at *
      have HA2 := Lib.hid hA
      clear hA HA
      go_wp2_with fail
      refine C3.out.mono ?_
      rintro e w2 ⟨rfl, hb2⟩
      have HB2 := Lib.hid (HB.out.trans ((C3b.out.trans (hb2.mono C3b.out.size)).mono HB.out.size))
      clear hb2 C3 C3b cv
      cases q with
      | false =>
        go_wp2
        go_ret
        exact ⟨by rw [HA2.out]; rfl, HB1.out.trans (HB2.out.mono HB1.out.size)⟩
      | true =>
        go_wp2
        go_roundg (m - (t + 1))
        case measure => have := hg.out; omega
        case rel => exact ⟨t + 1, by go_num, by omega, Lib.hid (by have := hg.out; omega), Lib.hid (by rw [HA2.out, Bool.true_and]), HB2⟩
    · have hti : ¬ (t : Int) < (m : Int) := by omega
      have HA2 : Hid (R = !(valuesB (ats.drop 0) && own)) := Lib.hid (by rw [HA.out, List.drop_of_length_le (by rw [HLL.out]; omega)]; rfl)
      have HB0 : Hid (Below (w.alloc (.cells #[.int .i64 k, .string ⟨sp.toArray⟩, .string ⟨lo.toArray⟩, .slice A n cap, .string ⟨tx.toArray⟩] 40)).heap.size (w.alloc (.cells #[.int .i64 k, .string ⟨sp.toArray⟩, .string ⟨lo.toArray⟩, .slice A n cap, .string ⟨tx.toArray⟩] 40)) wr) := Lib.hid (HBJ.out.trans (HB.out.mono HBJ.out.size))
      clear HA HQ HS HB HB1 HBJ hg ht0 ht9 htn ht
      go_wp2
      clear hti
      go_loopg [5] (n) (fun g i wr => ∃ t : Nat, i = .int .i64 (t : Int) ∧ t ≤ n ∧ Hid (g + t = n) ∧ Hid (R = !(valuesB (ats.drop t) && own)) ∧ Hid (Below (w.alloc (.cells #[.int .i64 k, .string ⟨sp.toArray⟩, .string ⟨lo.toArray⟩, .slice A n cap, .string ⟨tx.toArray⟩] 40)).heap.size (w.alloc (.cells #[.int .i64 k, .string ⟨sp.toArray⟩, .string ⟨lo.toArray⟩, .slice A n cap, .string ⟨tx.toArray⟩] 40)) wr))
      case atStart => exact ⟨0, rfl, Nat.zero_le _, Lib.hid rfl, HA2, HB0⟩
      case round =>
        clear HB0 HA2
        obtain ⟨t, rfl, ht, hg, HA, HB⟩ := hrel
        have ht0 : (0 : Int) ≤ (t : Int) := by omega
        have ht9 : (t : Int) ≤ 100000 := by omega
        have HBW := Lib.hid (J0.out.1.trans (HB.out.mono J0.out.1.size))
        have J2 := Lib.hid (J0.out.kept HB.out)
        have z3 := cell_of 3 J2.out.2
        by_cases htn : t < n
        · have hti : (t : Int) < (n : Int) := by omega
          obtain ⟨b1, o1, x, rfl, hb1, hx, hc1⟩ := (HP.out _ HBW.out).cell htn
          have hsx := HV.out x (List.mem_of_getElem? hx)
          have hdr : ats.drop t = x :: ats.drop (t + 1) := by
            have hl := (List.getElem?_eq_some_iff.1 hx).1
            have he : ats[t] = x := by rw [List.getElem?_eq_getElem hl] at hx; exact Option.some.inj hx
            rw [List.drop_eq_getElem_cons hl, he]
          have hA := HA.out
          rw [hdr, valuesB, List.all_cons, ← valuesB] at hA
          obtain ⟨xs, xl, xv⟩ := x
          have y2 : wr.cell? ⟨b1, o1 + t * 3 + 2, none⟩ = some (.string ⟨xv.toArray⟩) := by rw [show o1 + t * 3 + 2 = o1 + (t * 3 + 2) by omega]; exact hc1 2 _ rfl
          have cv := run_toBytes wr xv
          have hcb := Lib.bytesWorld_below wr 5 ⟨xv.toArray⟩
          have C3 := Lib.hid (refAllD_c _ _ _ xv (Lib.bytesWorld wr 5 ⟨xv.toArray⟩) ((byt_new wr xv (by simp only at hsx; omega)).more (Nat.le_of_eq (Lib.bytesWorld_size _ _ _).symm)) (by simp only at hsx; omega))
          have C3b := Lib.hid hcb
          clear hcb
          clear hb1 hx hc1 hdr hsx
          generalize allOut isDoc xv = q at *
          have HA2 := Lib.hid hA
          clear hA HA
          go_wp2_with fail
          refine C3.out.mono ?_
          rintro e w2 ⟨rfl, hb2⟩
          have HB2 := Lib.hid (HB.out.trans ((C3b.out.trans (hb2.mono C3b.out.size)).mono HB.out.size))
          clear hb2 C3 C3b cv z3 y2
          cases q with
          | false =>
            go_wp2
            go_ret
            exact ⟨by rw [HA2.out]; rfl, J0.out.1.trans (HB2.out.mono J0.out.1.size)⟩
          | true =>
            go_wp2
            go_roundg (n - (t + 1))
            case measure => have := hg.out; omega
            case rel => exact ⟨t + 1, by go_num, by omega, Lib.hid (by have := hg.out; omega), Lib.hid (by rw [HA2.out, Bool.true_and]), HB2⟩
        · have hti : ¬ (t : Int) < (n : Int) := by omega
          have HA2 : Hid (R = !own) := Lib.hid (by rw [HA.out, List.drop_of_length_le (by rw [HLN.out]; omega)]; rfl)
          clear HA HP HV HLN HLL hg J0
          have z4 := cell_of 4 J2.out.2
          have cv := run_toBytes wr tx
          have hcb := Lib.bytesWorld_below wr 5 ⟨tx.toArray⟩
          have CA := Lib.hid (refAllD_c _ _ _ tx (Lib.bytesWorld wr 5 ⟨tx.toArray⟩) ((byt_new wr tx (by have := HTX.out; omega)).more (Nat.le_of_eq (Lib.bytesWorld_size _ _ _).symm)) (by have := HTX.out; omega))
          have CAb := Lib.hid hcb
          clear hcb
          generalize hq : allOut isDoc tx = q at *
          have HQT := Lib.hid hq
          clear hq
          go_wp2_with fail
          refine CA.out.mono ?_
          rintro e w2 ⟨rfl, hb2⟩
          have hb3 := CAb.out.trans (hb2.mono CAb.out.size)
          have J3 := Lib.hid (J2.out.kept hb3)
          have HB2 := Lib.hid (HBW.out.trans (hb3.mono HBW.out.size))
          clear z3 z4 hb2 hb3 CA CAb cv
          have z0 := cell_of 0 J3.out.2
          have z2 := cell_of 2 J3.out.2
          have z4 := cell_of 4 J3.out.2
          rcases HKK.out with rfl | rfl | rfl | rfl | rfl
          · have ht0 := HTX0.out (by simp)
            subst ht0
            have e1 : own = true := by rw [← HOWN.out]; rfl
            have e2 : q = true := by rw [← HQT.out]; rfl
            subst e1 e2
            go_wp2
            go_ret
            exact ⟨by rw [HA2.out]; rfl, HB2.out⟩
          · have ht0 := HTX0.out (by simp)
            subst ht0
            have e1 : own = true := by rw [← HOWN.out]; rfl
            have e2 : q = true := by rw [← HQT.out]; rfl
            subst e1 e2
            go_wp2
            go_ret
            exact ⟨by rw [HA2.out]; rfl, HB2.out⟩
          · have e1 : own = (!tx.isEmpty && q) := by rw [← HOWN.out, ← HQT.out]; rfl
            subst e1
            clear HOWN
            cases q with
            | false =>
              go_wp2
              go_ret
              exact ⟨by rw [HA2.out]; simp, HB2.out⟩
            | true =>
              cases tx with
              | nil =>
                go_wp2
                go_ret
                exact ⟨by rw [HA2.out]; rfl, HB2.out⟩
              | cons a tl =>
                have hne : (⟨(a :: tl).toArray⟩ : ByteArray) ≠ ⟨#[]⟩ := by simp
                go_wp2
                go_ret
                exact ⟨by rw [HA2.out]; rfl, HB2.out⟩
          · have e1 : own = (q && !decide ((putPiOut lo tx).2 = 7) && !Lib.contains tx [13]) := by rw [← HOWN.out, ← HQT.out]; rfl
            subst e1
            clear HOWN
            cases q with
            | false =>
              go_wp2
              go_ret
              exact ⟨by rw [HA2.out]; simp, HB2.out⟩
            | true =>
              have CP := Lib.hid (refPutPi_c lo tx w2 HLO.out HTX.out)
              unfold out2V at CP
              have HA3 : Hid (R = !(!decide ((putPiOut lo tx).2 = 7) && !Lib.contains tx [13])) := Lib.hid (by rw [HA2.out, Bool.true_and])
              clear HA2
              generalize putPiOut lo tx = c at *
              obtain ⟨c1, d2⟩ := c
              simp only at HA3
              go_wp2_with fail
              refine CP.out.mono ?_
              rintro e w3 ⟨rfl, hb3⟩
              have J4 := Lib.hid (J3.out.kept hb3)
              have HB3 := Lib.hid (HB2.out.trans (hb3.mono HB2.out.size))
              clear z0 z2 z4 hb3 CP
              have z0 := cell_of 0 J4.out.2
              have z4 := cell_of 4 J4.out.2
              by_cases h7 : d2 = 7
              · subst h7
                go_wp2
                go_ret
                exact ⟨by rw [HA3.out]; rfl, HB3.out⟩
              · have h7i : ((d2 : Int) == 7) = false := by simp; omega
                rw [decide_eq_false h7] at HA3
                have CH := Lib.hid (has_c tx 13 w3 (by have := HTX.out; omega))
                rw [← contains_one] at CH
                generalize Lib.contains tx [13] = ct at *
                clear h7
                go_wp2_with fail
                refine CH.out.mono ?_
                rintro e w4 ⟨rfl, rfl⟩
                go_wp2
                go_ret
                exact ⟨by rw [HA3.out]; simp, HB3.out⟩
          · have e1 : own = (q && mayComment tx && !Lib.contains tx [13]) := by rw [← HOWN.out, ← HQT.out]; rfl
            subst e1
            clear HOWN
            cases q with
            | false =>
              go_wp2
              go_ret
              exact ⟨by rw [HA2.out]; simp, HB2.out⟩
            | true =>
              have HA3 : Hid (R = !(mayComment tx && !Lib.contains tx [13])) := Lib.hid (by rw [HA2.out, Bool.true_and])
              clear HA2
              have hsum : (Op.stringOp .add ⟨tx.toArray⟩ ⟨#[45]⟩).run Tryd.prog w2 = .ok (.string ⟨(tx ++ [45]).toArray⟩) w2 := run_sop tx [45] (by have := HTX.out; simp; omega)
              have HMC : Hid (mayComment tx = !decide (0 ≤ findI (tx ++ [45]) 0 [45, 45])) := Lib.hid (by
                unfold mayComment
                congr 1
                rw [Bool.eq_iff_iff, decide_eq_true_eq, findI_contains])
              have htl : (tx ++ [45]).length ≤ 5001 := by have := HTX.out; rw [List.length_append]; simp; omega
              generalize tx ++ [45] = ty at *
              have cv := run_toBytes w2 ty
              have hcb := Lib.bytesWorld_below w2 5 ⟨ty.toArray⟩
              have CF := Lib.hid (refFind_c _ _ _ ty 0 [45, 45] _ (Lib.bytesWorld w2 5 ⟨ty.toArray⟩) (byt_new w2 ty (by omega)) (by simp) (by omega) (by simp) (Nat.zero_le _))
              have J4 := Lib.hid (J3.out.kept hcb)
              have HB3 := Lib.hid (HB2.out.trans (hcb.mono HB2.out.size))
              generalize findI ty 0 [45, 45] = fi at *
              clear hcb htl
              go_wp2_with fail
              refine CF.out.mono ?_
              rintro e w3 ⟨rfl, rfl⟩
              clear z0 z2 z4 CF
              have z0 := cell_of 0 J4.out.2
              have z4 := cell_of 4 J4.out.2
              by_cases h7 : 0 ≤ fi
              · rw [HMC.out, decide_eq_true h7] at HA3
                go_wp2
                go_ret
                exact ⟨by rw [HA3.out]; rfl, HB3.out⟩
              · rw [HMC.out, decide_eq_false h7] at HA3
                have CH := Lib.hid (has_c tx 13 (Lib.bytesWorld w2 5 ⟨ty.toArray⟩) (by have := HTX.out; omega))
                rw [← contains_one] at CH
                generalize Lib.contains tx [13] = ct at *
                go_wp2_with fail
                refine CH.out.mono ?_
                rintro e w4 ⟨rfl, rfl⟩
                go_wp2
                go_ret
                exact ⟨by rw [HA3.out]; simp, HB3.out⟩
end Go.Proofs.YtocbofeanfdggaaDoor
/- A row of strings as a parameter. -/
namespace Go.Proofs.YtocbofeanfdggaaDoor
open Go.ChangeShapes Go.WideShapes Go.ChangeAt Go.RowKit
set_option linter.unusedVariables false
end Go.Proofs.YtocbofeanfdggaaDoor
