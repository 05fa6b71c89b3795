/- evalue.Put: a value of a text. -/
import Derived.Test.YtljmpghijlibaaaDoorRows
import Derived.WalkKit
import Derived.ProofKit
import Derived.OpenShut
import Derived.ShutString
import Derived.ChangeOld
import Derived.Below
import Derived.BigQuiet
import Derived.Deep.QuietTactic
import Derived.Lib.Hide
import Derived.Deep.RegionHeld3
import Derived.Lib.SlBytesConst
import Derived.Laws.CopyOwn
import Derived.Laws.CopyRow
import Derived.Lib.Bytes
import Derived.Deep.LoopGhost
import Derived.Deep.DeepFit
import Derived.Deep.DeepMust
import Derived.WalkSpells
import Derived.WalkLawsBesides
import Derived.Laws.EntriesVeiled
import Derived.Laws.Rows
import Derived.Test.YtljmpghijlibaaaDoorShelf
import Derived.Test.YtljmpghijlibaaaDoorBase
import Derived.Test.YtljmpghijlibaaaDoorCharPlain
import Derived.Test.YtljmpghijlibaaaDoorStr
import Derived.Test.YtljmpghijlibaaaDoorUtf1
import Derived.Test.YtljmpghijlibaaaDoorUtf2
import Derived.Test.YtljmpghijlibaaaDoorUtf3
import Derived.Test.YtljmpghijlibaaaDoorChars1
import Derived.Test.YtljmpghijlibaaaDoorName1
import Derived.Test.YtljmpghijlibaaaDoorName2
import Derived.Test.YtljmpghijlibaaaDoorName3
import Derived.Test.YtljmpghijlibaaaDoorCref1
import Derived.Test.YtljmpghijlibaaaDoorRef1
import Derived.Test.YtljmpghijlibaaaDoorRef3
import Derived.Test.YtljmpghijlibaaaDoorY2
import Derived.Test.YtljmpghijlibaaaDoorY3
import Derived.Test.YtljmpghijlibaaaDoorEscP
import Derived.Test.YtljmpghijlibaaaDoorText
import Derived.Test.YtljmpghijlibaaaDoorLibB
import Derived.Test.YtljmpghijlibaaaDoorMiscP
import Derived.Test.YtljmpghijlibaaaDoorEnc
import Derived.Test.YtljmpghijlibaaaDoorEvP
import Derived.Test.YtljmpghijlibaaaDoorEvP2
import Derived.Test.YtljmpghijlibaaaDoorEvP3
import Derived.Test.YtljmpghijlibaaaDoorEvP4
import Derived.Test.YtljmpghijlibaaaDoorPub
import Derived.Test.YtljmpghijlibaaaDoorRun
import Derived.Test.YtljmpghijlibaaaDoorRunU
import Derived.Test.YtljmpghijlibaaaDoorRunV
import Derived.Test.YtljmpghijlibaaaDoorEv1
import Derived.Test.YtljmpghijlibaaaDoorEv2
import Derived.Test.YtljmpghijlibaaaDoorEv3
import Derived.Test.YtljmpghijlibaaaDoorEv6
namespace Go.Proofs.YtljmpghijlibaaaDoor
open Go.ChangeShapes Go.WideShapes Go.ChangeAt Go.RowKit
set_option linter.unusedVariables false
theorem set_doc {c : UInt8} (h : setV.contains c = true) : isDoc (c.toNat : Int) = true := (set_facts c (mem_set h)).1
set_option maxRecDepth 100000 in
set_option maxHeartbeats 8000000 in
theorem evPut_c (s : List UInt8) (w : World) (hW : W14 w) (hp : Lib.TabIs Tryd.prog w "internal/strconv.uint64pow10" .u64 Lib.pow10Tab) (hm : s.length ≤ 20000) :
    Calls Tryd.prog 33 #[.string ⟨s.toArray⟩] w fun e w' => e = .returned (.tuple #[.string ⟨(putOut s).1.toArray⟩, .int .i64 (putOut s).2]) ∧ Below w.heap.size w w' := by
  obtain ⟨cp, w1, hcv, hb1, hs1, hby⟩ := toBytes w s (by omega)
  have HW := Lib.hid (And.intro hW hp)
  have HC := Lib.hid (utfCheck_c _ _ _ s w1 (hs1 ▸ hby) (hW.below hb1).forms (by omega))
  have HB1 := Lib.hid (And.intro hb1 hs1)
  clear hb1 hby hW hp
  cases hok : (runesOut s).2 with
  | false =>
    have HP : Hid (putOut s = ([], 5)) := Lib.hid (by unfold putOut; rw [hok]; rfl)
    rw [hok] at HC
    clear hok
    go_enter Tryd.func33, Tryd.ntmps33
    go_wp2_with fail
    refine HC.out.mono ?_
    rintro e w2 ⟨⟨z, rfl⟩, hb2⟩
    have HB2 := Lib.hid (HB1.out.1.trans (hb2.mono (by have := HB1.out.2; omega)))
    clear hb2
    go_wp2
    go_ret2
    exact ⟨by rw [HP.out]; rfl, HB2.out⟩
  | true =>
    have HOK := Lib.hid hok
    rw [hok] at HC
    clear hok
    go_enter Tryd.func33, Tryd.ntmps33
    go_wp2_with fail
    refine HC.out.mono ?_
    rintro e w2 ⟨⟨z, rfl⟩, hb2⟩
    have HB2 := Lib.hid (HB1.out.1.trans (hb2.mono (by have := HB1.out.2; omega)))
    obtain ⟨cp2, w3, hcv2, hb3, hs3, hby3⟩ := toBytes w2 s (by omega)
    have HB3 := Lib.hid (HB2.out.trans (hb3.mono HB2.out.size))
    have HA := Lib.hid (charsAllD_c _ _ _ s w3 (hs3 ▸ hby3) (HW.out.1.below HB3.out).forms (HW.out.1.below HB3.out).tabs (by omega))
    clear hb2 hb3 hby3
    cases hall : allOut isDoc s with
    | false =>
      have HP : Hid (putOut s = ([], 6)) := Lib.hid (by unfold putOut; rw [if_pos HOK.out, hall]; rfl)
      rw [hall] at HA
      clear hall
      go_wp2_with fail
      refine HA.out.mono ?_
      rintro e w4 ⟨rfl, hb4⟩
      have HB4 := Lib.hid (HB3.out.trans (hb4.mono HB3.out.size))
      clear hb4
      go_wp2
      go_ret2
      exact ⟨by rw [HP.out]; rfl, HB4.out⟩
    | true =>
      have HP : Hid (putOut s = (putV s, 0)) := Lib.hid (by unfold putOut; rw [if_pos HOK.out, hall]; rfl)
      rw [hall] at HA
      clear hall
      go_wp2_with fail
      refine HA.out.mono ?_
      rintro e w4 ⟨rfl, hb4⟩
      have HB4 := Lib.hid (HB3.out.trans (hb4.mono HB3.out.size))
      clear hb4 hcv hcv2
      have hB := Bld.fresh (w4.heap.size + 2) w4 (by omega)
      have hb0 : Below w4.heap.size w4 (w4.alloc (.cells #[.pointer none, .slice none 0 0] 44)) := (Below.refl _ _).alloc (Nat.le_refl _) _
      have hs0 : (w4.alloc (.cells #[.pointer none, .slice none 0 0] 44)).heap.size = w4.heap.size + 1 := by simp
      obtain ⟨c5, w5, hcv5, hb5, hs5, hby5⟩ := toBytes (w4.alloc (.cells #[.pointer none, .slice none 0 0] 44)) s (by omega)
      rw [hs0] at hcv5 hb5 hs5 hby5
      have hB5 := hB.kept (by rw [hs0]; exact hb5)
      have hbw := hb0.trans (hb5.mono (by omega))
      have hcell : ∀ (wr : World), Fr (w4.heap.size + 2) w4.heap.size w5 wr → ∀ k, k < s.length → wr.cell? ⟨w4.heap.size + 1, k, none⟩ = some (.int .u8 (UInt8.toNat (s.getD k 0) : Int)) := fun wr hf k hk => by
        obtain ⟨b, o, c, e, hb, hc, hcl⟩ := hby5.cell hk
        cases e
        rw [World.cell?_of_block (w := w5) (a := ⟨w4.heap.size + 1, k, none⟩) (hf.block (w4.heap.size + 1) (by omega) (by omega))]
        rw [Nat.zero_add] at hcl
        rw [hcl, List.getD_eq_getElem?_getD, hc]
        rfl
      have HCE := Lib.hid hcell
      have HB5 := Lib.hid (And.intro hB5 hbw)
      have HS5 := Lib.hid hs5
      have HST : Hid (∀ wr, Fr (w4.heap.size + 2) w4.heap.size w5 wr → Below w.heap.size w wr) := Lib.hid fun wr hf => HB4.out.trans ((hbw.trans (hf.below (by omega) (Nat.le_refl _))).mono HB4.out.size)
      clear hB hb0 hs0 hB5 hb5 hs5 hby5 hbw hcell
      generalize hwS : w4.heap.size = S at *
      go_wp2
      go_loopw [27] (fun i wr => ∃ k : Nat, k ≤ s.length ∧ i = .int .i64 k ∧ Hid (Bld (S + 2) S (putV (s.take k)) wr ∧ Fr (S + 2) S w5 wr)) (fun i _ => s.length - (intOf i).toNat)
      case atStart => exact ⟨0, Nat.zero_le _, rfl, Lib.hid ⟨HB5.out.1, Fr.refl _ _ _⟩⟩
      case round =>
        obtain ⟨k, hk, rfl, I⟩ := hrel
        have hk0 : (0 : Int) ≤ (k : Int) := by omega
        have hk1 : (k : Int) ≤ 20000 := by omega
        by_cases hlt : k < s.length
        · have hcl := HCE.out _ I.out.2 k hlt
          have HSN : Hid (putV (s.take (k + 1)) = putV (s.take k) ++ escV (s.getD k 0)) := Lib.hid (by
            rw [take_snoc s k (s.getD k 0) (by simp [hlt]), putV_snoc])
          have HLE : Hid ((putV (s.take k)).length ≤ 120000) := Lib.hid (by have := putV_le (s.take k); rw [List.length_take] at this; omega)
          have HSZ : Hid (S + 2 ≤ wr.heap.size) := Lib.hid (by have := I.out.2.size; have := HS5.out; omega)
          generalize s.getD k 0 = d at *
          have hd0 : (0 : Int) ≤ (d.toNat : Int) := by omega
          have hd1 : (d.toNat : Int) ≤ 255 := by have := d.toNat_lt; omega
          have HH : Hid (∀ W, Calls Tryd.prog 63 #[.string ⟨setV.toArray⟩, .int .u8 d.toNat] W fun e w' => e = .returned (.int .i64 (Lib.indexByte setV d)) ∧ W = w') := Lib.hid fun W =>
            (Tryd.strings_IndexByte ⟨setV.toArray⟩ d.toNat W).mono fun e w' ⟨he, hw⟩ => ⟨by rw [he]; simp, hw.symm⟩
          have hcn := ix_contains setV d
          generalize Lib.indexByte setV d = ix at *
          cases hin : setV.contains d with
          | true =>
            have hix : ¬ ix < 0 := by rw [hin] at hcn; simp at hcn; omega
            have HDL := Lib.hid (dec_le3 d.toNat d.toNat_lt)
            have HEB : Hid (escV d = 38 :: 35 :: (Lib.decDigits d.toNat ++ [59])) := Lib.hid (by unfold escV; rw [if_pos hin])
            have HT : Hid (∀ w1, Below w.heap.size w w1 → Calls Tryd.prog 65 #[.int .i64 d.toNat] w1 fun e w' => e = .returned (.tuple #[.string ⟨(escV d).toArray⟩, .int .i64 0]) ∧ Below w1.heap.size w1 w') := Lib.hid fun w1 hb => by
              have := text_c (d.toNat : Int) w1 (HW.out.1.below hb).tabs (TabIs_below (B := 0) HW.out.2 hb)
              unfold textOut at this
              rw [if_pos (set_doc hin), if_pos (set_doc hin), Int.toNat_natCast] at this
              unfold escV
              rw [if_pos hin]
              exact this
            have HEL := Lib.hid (escV_le d)
            clear hin hcn HEB
            go_wp2_with fail
            refine (HH.out _).mono ?_
            rintro e w6 ⟨rfl, rfl⟩
            go_wp2_with fail
            refine (HT.out _ (HST.out _ I.out.2)).mono ?_
            rintro e w6 ⟨rfl, hb6⟩
            have HI : Hid (Bld (S + 2) S (putV (s.take k)) w6 ∧ Fr (S + 2) S w5 w6 ∧ S + 2 ≤ w6.heap.size) := Lib.hid ⟨I.out.1.kept hb6, I.out.2.trans ((Fr.ofBelow hb6).mono HSZ.out), Nat.le_trans HSZ.out hb6.size⟩
            clear hb6
            go_wp2_with fail
            refine (writeString_b (S + 2) S (putV (s.take k)) (escV d) _ HI.out.1 (by have := HLE.out; have := HEL.out; omega) HI.out.2.2).mono ?_
            rintro e w7 ⟨rfl, hb7, hf7⟩
            have HN : Hid (Bld (S + 2) S (putV (s.take (k + 1))) w7 ∧ Fr (S + 2) S w5 w7) := Lib.hid ⟨by rw [HSN.out]; exact hb7, HI.out.2.1.trans hf7⟩
            clear hb7 hf7
            go_wp2
            go_roundw
            case rel => exact ⟨k + 1, by omega, by go_num, HN⟩
            case measure => simp [intOf]; omega
          | false =>
            have hix : ix < 0 := by rw [hin] at hcn; simp at hcn; omega
            have HEB : Hid (escV d = [d]) := Lib.hid (by unfold escV; rw [hin]; rfl)
            clear hin hcn
            go_wp2_with fail
            refine (HH.out _).mono ?_
            rintro e w6 ⟨rfl, rfl⟩
            go_wp2_with fail
            refine (writeByte_b (S + 2) S (putV (s.take k)) d _ I.out.1 (by have := HLE.out; omega) HSZ.out).mono ?_
            rintro e w7 ⟨rfl, hb7, hf7⟩
            have HN : Hid (Bld (S + 2) S (putV (s.take (k + 1))) w7 ∧ Fr (S + 2) S w5 w7) := Lib.hid ⟨by rw [HSN.out, HEB.out]; exact hb7, I.out.2.trans hf7⟩
            clear hb7 hf7
            go_wp2
            go_roundw
            case rel => exact ⟨k + 1, by omega, by go_num, HN⟩
            case measure => simp [intOf]; omega
        · obtain rfl : k = s.length := by omega
          have hst := string_b (S + 2) S (putV s) wr (by have := I.out.1; rwa [List.take_length] at this)
          go_wp2_with fail
          refine hst.mono ?_
          rintro e w7 ⟨rfl, hb7⟩
          have HN : Hid (Below w.heap.size w w7) := Lib.hid ((HST.out _ I.out.2).trans (hb7.mono (by rw [← hwS]; exact HB4.out.size)))
          clear hb7 hst
          go_wp2
          go_ret2
          rw [HP.out]
          exact ⟨rfl, HN.out⟩
end Go.Proofs.YtljmpghijlibaaaDoor
