/- The law MiscPis. -/
import Derived.Test.YteighjiocgdgaaaDoorRows
import Derived.WalkKit
import Derived.ProofKit
import Derived.OpenShut
import Derived.ShutString
import Derived.ChangeOld
import Derived.Below
import Derived.BigQuiet
import Derived.Deep.QuietTactic
import Derived.Lib.Hide
import Derived.Deep.RegionHeld3
import Derived.Lib.SlBytesConst
import Derived.Laws.CopyOwn
import Derived.Laws.CopyRow
import Derived.Lib.Bytes
import Derived.Deep.LoopGhost
import Derived.Deep.DeepFit
import Derived.Deep.DeepMust
import Derived.WalkSpells
import Derived.WalkLawsBesides
import Derived.Test.YteighjiocgdgaaaDoorBase
import Derived.Test.YteighjiocgdgaaaDoorShelf
import Derived.Test.YteighjiocgdgaaaDoorCharPlain
import Derived.Test.YteighjiocgdgaaaDoorUtf1
import Derived.Test.YteighjiocgdgaaaDoorUtf2
import Derived.Test.YteighjiocgdgaaaDoorUtf3
import Derived.Test.YteighjiocgdgaaaDoorChars1
import Derived.Test.YteighjiocgdgaaaDoorName1
import Derived.Test.YteighjiocgdgaaaDoorName2
import Derived.Test.YteighjiocgdgaaaDoorName3
import Derived.Test.YteighjiocgdgaaaDoorNameA
import Derived.Test.YteighjiocgdgaaaDoorPub
import Derived.Test.YteighjiocgdgaaaDoorBlank
import Derived.Test.YteighjiocgdgaaaDoorEsc
import Derived.Test.YteighjiocgdgaaaDoorStr
import Derived.Test.YteighjiocgdgaaaDoorLibB
import Derived.Test.YteighjiocgdgaaaDoorMiscP
import Derived.Test.YteighjiocgdgaaaDoorMiscP2
import Derived.Test.YteighjiocgdgaaaDoorMiscP3
import Derived.Test.YteighjiocgdgaaaDoorMisc1
import Derived.Test.YteighjiocgdgaaaDoorMisc3
import Derived.Test.YteighjiocgdgaaaDoorMisc6
import Derived.Test.YteighjiocgdgaaaDoorMisc7
import Derived.Test.YteighjiocgdgaaaDoorLaw08
import Derived.Test.YteighjiocgdgaaaDoorFold
import Derived.Test.YteighjiocgdgaaaDoorMisc8
import Derived.Test.YteighjiocgdgaaaDoorLaw08b
import Derived.Test.YteighjiocgdgaaaDoorWhole
import Derived.Test.YteighjiocgdgaaaDoorPutPi
import Derived.Test.YteighjiocgdgaaaDoorRPutPi
namespace Go.Proofs.YteighjiocgdgaaaDoor
open Go.ChangeShapes Go.WideShapes Go.ChangeAt Go.RowKit
set_option linter.unusedVariables false
theorem putPi_cases (t d : List UInt8) : (putPiOut t d).2 ≠ 0 ∨ (isPl t = true ∧ resB t = false ∧ Lib.contains d [63, 62] = false ∧ blankHead d = false ∧ t.length ≤ 1024 ∧ putPiOut t d = ([60, 63] ++ t ++ dataOf d ++ [63, 62], 0)) := by
  by_cases h : isPl t = false ∨ resB t = true ∨ Lib.contains d [63, 62] = true ∨ blankHead d = true
  · left; rw [putPi_bad t d h]; simp
  · simp only [not_or] at h
    obtain ⟨h1, h2, h3, h4⟩ := h
    have h1 : isPl t = true := by simpa using h1
    have h2 := bfalse h2
    have h3 := bfalse h3
    have h4 := bfalse h4
    by_cases hl : 1024 < t.length
    · left; rw [putPi_long t d h1 h2 h3 h4 hl]; simp
    · right; exact ⟨h1, h2, h3, h4, by omega, putPi_ok t d h1 h2 h3 h4 hl⟩
theorem dataOf_len (d : List UInt8) : (dataOf d).length ≤ d.length + 1 := by cases d <;> simp [dataOf]
set_option maxRecDepth 100000 in
set_option maxHeartbeats 4000000 in
theorem miscPis_walk (tb db : ByteArray) (w : World) (hW : W8F w) : Calls Tryd.prog 10 #[.string tb, .string db] w fun e w' => e = .returned (.bool true) ∧ Below w.heap.size w w' := by
  obtain ⟨t, rfl⟩ : ∃ s : List UInt8, tb = ⟨s.toArray⟩ := ⟨tb.data.toList, by simp⟩
  obtain ⟨d, rfl⟩ : ∃ s : List UInt8, db = ⟨s.toArray⟩ := ⟨db.data.toList, by simp⟩
  have LV : Hid (∀ W, Below w.heap.size w W → Calls Tryd.prog 35 #[] W fun e w' => e = .returned (.bool true) ∧ Below W.heap.size W w') := Lib.hid fun W hb => live8_c W (hW.below hb).toW8
  by_cases hn : t.length ≤ 1200 ∧ d.length ≤ 300
  · have hn1 : ¬ (1200 : Int) < (t.length : Int) := by omega
    have hn2 : ¬ (300 : Int) < (d.length : Int) := by omega
    have C1 := Lib.hid (putPi_c t d w hW (by omega) (by omega))
    have C2 : Hid (∀ W, Below w.heap.size w W → Calls Tryd.prog 46 #[.string ⟨t.toArray⟩, .string ⟨d.toArray⟩] W fun e w' => e = .returned (out2V (putPiOut t d)) ∧ Below W.heap.size W w') := Lib.hid fun W hb => refPutPi_c t d W (by omega) (by omega)
    have C3 : Hid (∀ W, Below w.heap.size w W → Calls Tryd.prog 47 #[.string ⟨t.toArray⟩] W fun e w' => e = .returned (.bool (resB t)) ∧ Below W.heap.size W w') := Lib.hid fun W hb => miscReserved_c t W (hW.below hb).fold
    have C4 : Hid (∀ W, Calls Tryd.prog 48 #[.string ⟨t.toArray⟩] W fun e w' => e = .returned (.bool (resB t)) ∧ W = w') := Lib.hid fun W => refReserved_c t W
    rcases putPi_cases t d with hne | ⟨h1, h2, h3, h4, hl, he⟩
    · clear hW hn
      generalize putPiOut t d = po at *
      generalize resB t = r at *
      obtain ⟨o, f⟩ := po
      simp only at hne
      unfold out2V at *
      simp only at C1 C2
      have hf : ((f : Int) != 0) = true := by simp; omega
      clear hne
      go_enter Tryd.func10, Tryd.ntmps10
      go_wp2_with fail
      refine (C1.out).mono ?_
      rintro e w1 ⟨rfl, hb⟩
      have B1 := Lib.hid hb
      clear hb
      go_wp2_with fail
      refine (C2.out _ B1.out).mono ?_
      rintro e w2 ⟨rfl, hb⟩
      have B2 := Lib.hid (B1.out.trans (hb.mono B1.out.size))
      clear hb
      go_wp2_with fail
      refine (C3.out _ B2.out).mono ?_
      rintro e w3 ⟨rfl, hb⟩
      have B3 := Lib.hid (B2.out.trans (hb.mono B2.out.size))
      clear hb
      go_wp2_with fail
      refine (C4.out _).mono ?_
      rintro e wq ⟨rfl, rfl⟩
      go_wp2_with fail
      refine (LV.out _ B3.out).mono ?_
      rintro e w4 ⟨rfl, hb⟩
      have B4 := Lib.hid (B3.out.trans (hb.mono B3.out.size))
      clear hb
      go_wp2
      go_ret
      exact ⟨rfl, B4.out⟩
    · have hol : ([60, 63] ++ t ++ dataOf d ++ [63, 62]).length ≤ 2000 := by
        have := dataOf_len d
        simp only [List.length_append, List.length_cons, List.length_nil]
        omega
      have hpi : piAt ([60, 63] ++ t ++ dataOf d ++ [63, 62]) 0 = (t, d, ([60, 63] ++ t ++ dataOf d ++ [63, 62]).length, 0) := by
        have := put_pi t d hl h1 h2 h3 h4
        unfold piAt
        rw [if_neg (by omega)]
        exact this
      generalize [60, 63] ++ t ++ dataOf d ++ [63, 62] = o at *
      have C5 : Hid (∀ W, Below w.heap.size w W → Calls Tryd.prog 40 #[.slice (some ⟨W.heap.size, 0, none⟩) o.length (grownCap W o.length 0 5), .int .i64 0] (Lib.bytesWorld W 5 ⟨o.toArray⟩) fun e w' => e = .returned (out4V (t, d, o.length, 0)) ∧ Hid (Below w.heap.size w w')) := Lib.hid fun W hb => by
        have hb1 := hb.trans ((Lib.bytesWorld_below W 5 ⟨o.toArray⟩).mono hb.size)
        have := miscPiAt_c _ _ _ o 0 (Lib.bytesWorld W 5 ⟨o.toArray⟩) ((byt_new W o (by omega)).more (Nat.le_of_eq (Lib.bytesWorld_size _ _ _).symm)) (hW.below hb1) (by omega)
        rw [hpi] at this
        exact this.mono fun e w' ⟨he, hb2⟩ => ⟨he, Lib.hid (hb1.trans (hb2.mono hb1.size))⟩
      have hcv := fun W => run_toBytes W o
      rw [he] at C1 C2
      clear hW hn h1 h2 h3 h4 hl he hol hpi
      generalize resB t = r at *
      unfold out2V at *
      unfold out4V at *
      simp only at C1 C2 C5
      go_enter Tryd.func10, Tryd.ntmps10
      go_wp2_with fail
      refine (C1.out).mono ?_
      rintro e w1 ⟨rfl, hb⟩
      have B1 := Lib.hid hb
      clear hb
      go_wp2_with fail
      refine (C2.out _ B1.out).mono ?_
      rintro e w2 ⟨rfl, hb⟩
      have B2 := Lib.hid (B1.out.trans (hb.mono B1.out.size))
      clear hb
      go_wp2_with fail
      refine (C3.out _ B2.out).mono ?_
      rintro e w3 ⟨rfl, hb⟩
      have B3 := Lib.hid (B2.out.trans (hb.mono B2.out.size))
      clear hb
      go_wp2_with fail
      refine (C4.out _).mono ?_
      rintro e wq ⟨rfl, rfl⟩
      go_wp2_with fail
      refine (C5.out _ B3.out).mono ?_
      rintro e w4 ⟨rfl, B4⟩
      clear hcv
      go_wp2_with fail
      refine (LV.out _ B4.out).mono ?_
      rintro e w5 ⟨rfl, hb⟩
      have B5 := Lib.hid (B4.out.trans (hb.mono B4.out.size))
      clear hb
      go_wp2
      go_ret
      exact ⟨rfl, B5.out⟩
  · rcases (show 1200 < t.length ∨ (t.length ≤ 1200 ∧ 300 < d.length) by omega) with h | ⟨h, h'⟩
    · have h1 : (1200 : Int) < (t.length : Int) := by omega
      clear hW hn h
      go_enter Tryd.func10, Tryd.ntmps10
      go_wp2_with fail
      refine (LV.out _ (Below.refl _ _)).mono ?_
      rintro e w1 ⟨rfl, hb⟩
      have B1 := Lib.hid hb
      clear hb
      go_wp2
      go_ret
      exact ⟨rfl, B1.out⟩
    · have h1 : ¬ (1200 : Int) < (t.length : Int) := by omega
      have h2 : (300 : Int) < (d.length : Int) := by omega
      clear hW hn h h'
      go_enter Tryd.func10, Tryd.ntmps10
      go_wp2_with fail
      refine (LV.out _ (Below.refl _ _)).mono ?_
      rintro e w1 ⟨rfl, hb⟩
      have B1 := Lib.hid hb
      clear hb
      go_wp2
      go_ret
      exact ⟨rfl, B1.out⟩
end Go.Proofs.YteighjiocgdgaaaDoor
