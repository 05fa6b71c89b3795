/- The reader of lines: number. -/
import Derived.Test.YtbllodeanfdebaaGreatDoorRows
import Derived.WalkKit
import Derived.ProofKit
import Derived.OpenShut
import Derived.ShutString
import Derived.ChangeOld
import Derived.Below
import Derived.BigQuiet
import Derived.Deep.QuietTactic
import Derived.Lib.Hide
import Derived.Deep.RegionHeld3
import Derived.Lib.SlBytesConst
import Derived.Laws.CopyOwn
import Derived.Laws.CopyRow
import Derived.Lib.Bytes
import Derived.Deep.LoopGhost
import Derived.Deep.DeepFit
import Derived.Deep.DeepMust
import Derived.WalkSpells
import Derived.WalkLawsBesides
import Derived.Laws.EntriesVeiled
import Derived.Laws.Rows
import Derived.Lib.Replace
import Derived.Lib.Split
import Derived.Lib.ItoaNum
import Derived.Lib.AtoiAllCases
import Derived.Lib.AtoiErrMem
import Derived.Lib.AppendIntMem
import Derived.Test.YtbllodeanfdebaaGreatDoorShelf
import Derived.Test.YtbllodeanfdebaaGreatDoorBase
import Derived.Test.YtbllodeanfdebaaGreatDoorCsE
import Derived.Test.YtbllodeanfdebaaGreatDoorCsG
import Derived.Test.YtbllodeanfdebaaGreatDoorCsH
import Derived.Test.YtbllodeanfdebaaGreatDoorCsI
namespace Go.Proofs.YtbllodeanfdebaaGreatDoor
open Go.ChangeShapes Go.WideShapes Go.ChangeAt Go.RowKit
set_option linter.unusedVariables false
/-- strconv.Atoi of a word: a number, or an error that is not nil. -/
theorem atoi_yes (s : List UInt8) (v : Int) (h : Lib.atoiAll s = .ok v) (hl : s.length ≤ 100000) (w : World) :
    Calls Tryz.prog 59 #[.string ⟨s.toArray⟩] w fun e w' => e = .returned (.tuple #[.int .i64 v, .nilIface]) ∧ Below w.heap.size w w' := by
  refine (Tryz.strconv_Atoi_ok ⟨s.toArray⟩ (by rw [sz_of]; omega) v h w).mono fun e w' ⟨he, hw⟩ => ⟨he, ?_⟩
  rcases hw with rfl | ⟨t, rfl⟩
  · exact Below.refl _ _
  · exact Lib.bytesWorld_below _ _ _
theorem atoi_no (B : Nat) (s : List UInt8) (h : Lib.atoiAll s = Lib.atoiAll [] ∨ Lib.atoiAll s = .range) (hl : s.length ≤ 100000) (w : World) (hw : WC B w) :
    Calls Tryz.prog 59 #[.string ⟨s.toArray⟩] w fun e w' => ∃ (v : Int) (t : TypeId) (p : Value), e = .returned (.tuple #[.int .i64 v, .iface t p]) ∧ Below w.heap.size w w' := by
  obtain ⟨t1, p1, h1⟩ := hw.syn
  obtain ⟨t2, p2, h2⟩ := hw.rng
  rcases h with h | h
  · exact (Tryz.strconv_Atoi_syntax ⟨s.toArray⟩ (by rw [sz_of]; omega) h _ w h1 (.inr ⟨_, _, rfl⟩)).mono fun e w' ⟨N, he, _, _, hb⟩ => ⟨_, _, _, he, hb⟩
  · exact (Tryz.strconv_Atoi_range ⟨s.toArray⟩ (by rw [sz_of]; omega) h _ w h2 (.inr ⟨_, _, rfl⟩)).mono fun e w' ⟨N, he, _, _, hb⟩ => ⟨_, _, _, he, hb⟩
theorem itoaC_c (B : Nat) (v : Int) (h1 : -9223372036854775808 ≤ v) (h2 : v ≤ 9223372036854775807) (w : World) (hw : WC B w) :
    Calls Tryz.prog 35 #[.int .i64 v] w fun e w' => e = .returned (.string ⟨(Lib.itoa v).toArray⟩) ∧ Below w.heap.size w w' :=
  (Tryz.strconv_Itoa v h1 h2 w hw.tab).mono fun e w' ⟨he, hw⟩ => ⟨he, grow_belowC hw⟩
set_option maxRecDepth 100000 in
set_option maxHeartbeats 4000000 in
theorem number_yes (B lb t : Nat) (r s : List UInt8) (n : Nat) (w : World) (h : LnAt w lb r t) (hw : WC B w) (hs : numD s = some n) (hl : s.length ≤ 100000) :
    Calls Tryz.prog 46 #[.pointer (some ⟨lb, 0, none⟩), .string ⟨s.toArray⟩] w fun e w' => e = .returned (.int .i64 (n : Int)) ∧ Below w.heap.size w w' := by
  obtain ⟨ha, hi⟩ := numD_atoi hs
  have hn := (numD_some hs).2
  have hn0 : (0 : Int) ≤ (n : Int) := by omega
  have hn1 : (n : Int) ≤ 1099511627776 := by omega
  have CA := Lib.hid (atoi_yes s n ha hl w)
  have CI := Lib.hid (fun W (hb : Below w.heap.size w W) => itoaC_c B n (by omega) (by omega) W (hw.up hb))
  rw [hi] at CI
  have hse := str_beqC s
  clear h hw hs ha hi hl
  go_enter Tryz.func46, Tryz.ntmps46
  go_wp2_with fail
  refine (CA.out).mono ?_
  rintro e w1 ⟨rfl, hb⟩
  have HB := Lib.hid hb
  clear hb
  go_wp2_with fail
  refine (CI.out _ HB.out).mono ?_
  rintro e w2 ⟨rfl, hb2⟩
  have HB2 := Lib.hid (HB.out.trans (hb2.mono HB.out.size))
  clear hb2
  go_wp2
  go_ret
  exact ⟨rfl, HB2.out⟩
set_option maxRecDepth 100000 in
set_option maxHeartbeats 4000000 in
theorem number_no (B lb t : Nat) (r s : List UInt8) (w : World) (h : LnAt w lb r (t + 1)) (hw : WC B w) (hs : numD s = none) (hl : s.length ≤ 100000) (ht : t ≤ 100000) :
    Calls Tryz.prog 46 #[.pointer (some ⟨lb, 0, none⟩), .string ⟨s.toArray⟩] w fun e w' => e = .panicked (lineV (t + 1)) ∧ w.grownBy w' (some lb) := by
  have ht1 : (t : Int) ≤ 100000 := by omega
  have DEC : Hid (∀ W, Below w.heap.size w W → W.cell? ⟨lb, 1, none⟩ = some (.int .i64 ((t : Int) + 1)) ∧ W.frozen? ⟨lb, 1, none⟩ = false ∧ LnAt (W.setCell ⟨lb, 1, none⟩ (.int .i64 (t : Int))) lb r t ∧ w.grownBy (W.setCell ⟨lb, 1, none⟩ (.int .i64 (t : Int))) (some lb)) := Lib.hid fun W hb => by
    have hL := h.below hb
    exact ⟨by rw [cell_of 1 hL]; rfl, free_of 1 hL, hp_set hL, (hb.gr (some lb)).setCell 1 _⟩
  have FL := Lib.hid (fun W (hL : LnAt W lb r t) => fail_c lb t r W hL (by omega))
  have e1 : (t : Int) + 1 - 1 = t := by omega
  cases hat : Lib.atoiAll s with
  | ok v =>
    have hv := Lib.atoiAll_bounds hat
    have hv1 := hv.1
    have hv2 := hv.2
    have CA := Lib.hid (atoi_yes s v hat hl w)
    have CI := Lib.hid (fun W (hb : Below w.heap.size w W) => itoaC_c B v hv1 hv2 W (hw.up hb))
    by_cases hi : Lib.itoa v = s
    · have hout : v < 0 ∨ 1099511627776 < v := by
        rcases Int.lt_or_le v 0 with h0 | h0
        · exact .inl h0
        · rcases Int.lt_or_le 1099511627776 v with h1 | h1
          · exact .inr h1
          · exact absurd hi (numD_none hs h0 h1)
      rw [hi] at CI
      have hse := str_beqC s
      clear h hw hs hat hl hi hv
      rcases hout with hout | hout
      case' inr => have hv0 : ¬ v < 0 := by omega
      all_goals
        go_enter Tryz.func46, Tryz.ntmps46
        go_wp2_with fail
        refine (CA.out).mono ?_
        rintro e w1 ⟨rfl, hb⟩
        have HB := Lib.hid hb
        clear hb
        go_wp2_with fail
        refine (CI.out _ HB.out).mono ?_
        rintro e w2 ⟨rfl, hb2⟩
        have HB2 := Lib.hid (HB.out.trans (hb2.mono HB.out.size))
        clear hb2
        obtain ⟨c1, f1, hL2, hg2⟩ := DEC.out _ HB2.out
        have HL2 := Lib.hid hL2
        have HG2 := Lib.hid hg2
        clear hL2 hg2
        go_wp2_with fail
        refine (FL.out _ HL2.out).mono ?_
        rintro e w3 ⟨rfl, rfl⟩
        go_wp2
        exact bodyPost_pan rfl ⟨rfl, HG2.out⟩
    · have hse := str_bneC hi
      clear h hw hs hat hl hv
      go_enter Tryz.func46, Tryz.ntmps46
      go_wp2_with fail
      refine (CA.out).mono ?_
      rintro e w1 ⟨rfl, hb⟩
      have HB := Lib.hid hb
      clear hb
      go_wp2_with fail
      refine (CI.out _ HB.out).mono ?_
      rintro e w2 ⟨rfl, hb2⟩
      have HB2 := Lib.hid (HB.out.trans (hb2.mono HB.out.size))
      clear hb2
      obtain ⟨c1, f1, hL2, hg2⟩ := DEC.out _ HB2.out
      have HL2 := Lib.hid hL2
      have HG2 := Lib.hid hg2
      clear hL2 hg2
      go_wp2_with fail
      refine (FL.out _ HL2.out).mono ?_
      rintro e w3 ⟨rfl, rfl⟩
      go_wp2
      exact bodyPost_pan rfl ⟨rfl, HG2.out⟩
  | _ =>
    have CA := Lib.hid (atoi_no B s (by first | exact .inl hat | exact .inr hat) hl w hw)
    clear h hw hs hat hl
    go_enter Tryz.func46, Tryz.ntmps46
    go_wp2_with fail
    refine (CA.out).mono ?_
    rintro e w1 ⟨v, T, p, rfl, hb⟩
    obtain ⟨c1, f1, hL2, hg2⟩ := DEC.out _ hb
    have HL2 := Lib.hid hL2
    have HG2 := Lib.hid hg2
    clear hL2 hg2 hb
    go_wp2_with fail
    refine (FL.out _ HL2.out).mono ?_
    rintro e w3 ⟨rfl, rfl⟩
    go_wp2
    exact bodyPost_pan rfl ⟨rfl, HG2.out⟩
end Go.Proofs.YtbllodeanfdebaaGreatDoor
