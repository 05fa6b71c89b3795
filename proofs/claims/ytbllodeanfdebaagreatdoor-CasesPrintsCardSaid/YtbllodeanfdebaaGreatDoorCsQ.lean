/- The first line where it says nothing. -/
import Derived.Test.YtbllodeanfdebaaGreatDoorRows
import Derived.WalkKit
import Derived.ProofKit
import Derived.OpenShut
import Derived.ShutString
import Derived.ChangeOld
import Derived.Below
import Derived.BigQuiet
import Derived.Deep.QuietTactic
import Derived.Lib.Hide
import Derived.Deep.RegionHeld3
import Derived.Lib.SlBytesConst
import Derived.Laws.CopyOwn
import Derived.Laws.CopyRow
import Derived.Lib.Bytes
import Derived.Deep.LoopGhost
import Derived.Deep.DeepFit
import Derived.Deep.DeepMust
import Derived.WalkSpells
import Derived.WalkLawsBesides
import Derived.Laws.EntriesVeiled
import Derived.Laws.Rows
import Derived.Lib.Replace
import Derived.Lib.Split
import Derived.Lib.ItoaNum
import Derived.Lib.AtoiAllCases
import Derived.Lib.AtoiErrMem
import Derived.Lib.AppendIntMem
import Derived.Deep.RegionWith
import Derived.Test.YtbllodeanfdebaaGreatDoorShelf
import Derived.Test.YtbllodeanfdebaaGreatDoorBase
import Derived.Test.YtbllodeanfdebaaGreatDoorCsE
import Derived.Test.YtbllodeanfdebaaGreatDoorCsG
import Derived.Test.YtbllodeanfdebaaGreatDoorCsH
import Derived.Test.YtbllodeanfdebaaGreatDoorCsI
import Derived.Test.YtbllodeanfdebaaGreatDoorCsJ
import Derived.Test.YtbllodeanfdebaaGreatDoorCalm
import Derived.Test.YtbllodeanfdebaaGreatDoorCsL
import Derived.Test.YtbllodeanfdebaaGreatDoorRowS
import Derived.Test.YtbllodeanfdebaaGreatDoorCsM
import Derived.Test.YtbllodeanfdebaaGreatDoorCsN2
import Derived.Test.YtbllodeanfdebaaGreatDoorStL
import Derived.Test.YtbllodeanfdebaaGreatDoorCsO2
namespace Go.Proofs.YtbllodeanfdebaaGreatDoor
open Go.ChangeShapes Go.WideShapes Go.ChangeAt Go.RowKit
set_option linter.unusedVariables false
set_option maxRecDepth 100000 in
set_option maxHeartbeats 8000000 in
theorem lnLimits_no1 (B lb cb t : Nat) (ls : List (List UInt8)) (tl : List UInt8) (w : World) (h : LnAt w lb (unl ls tl) t) (hw : WC B w) (hc : w.heap[cb]? = some (.cells (limV []) 29)) (hn : ∀ x ∈ ls, (10 : UInt8) ∉ x) (hn2 : (10 : UInt8) ∉ tl) (hp : takeP wLim ls = none) (hm : (unl ls tl).length ≤ 100000) (ht : t ≤ 100000) :
    Calls Tryz.prog 17 #[.pointer (some ⟨lb, 0, none⟩), .pointer (some ⟨cb, 1, none⟩)] w fun e w' => e = .panicked (lineV (t + 1)) ∧ Kp2 lb cb w w' ∧ ∃ l, w'.heap[cb]? = some (.cells (limV l) 29) := by
  have MU := Lib.hid (must_no B lb t wLim ls tl w h hw hn hn2 hp hm ht)
  have HC := Lib.hid hc
  clear h hw hn hm hp hc
  go_enter Tryz.func17, Tryz.ntmps17
  go_wp2_with fail
  refine MU.out.mono ?_
  rintro e w1 ⟨rfl, n, rfl⟩
  go_wp2
  exact bodyPost_pan rfl ⟨rfl, .of1 ((gr_refl w _).drewN), _, HC.out⟩
set_option maxRecDepth 100000 in
set_option maxHeartbeats 8000000 in
theorem lnLimits_no2 (B lb cb t : Nat) (y : List UInt8) (ls : List (List UInt8)) (tl : List UInt8) (w : World) (h : LnAt w lb (unl (y :: ls) tl) t) (hw : WC B w) (hc : w.heap[cb]? = some (.cells (limV []) 29)) (hne : lb ≠ cb) (hBl : B ≤ lb) (hn : (10 : UInt8) ∉ y) (hp : wLim.isPrefixOf y = true) (h6 : (wordsP (y.drop 7)).length ≠ 6) (hm : (unl (y :: ls) tl).length ≤ 100000) (ht : t ≤ 100000) :
    Calls Tryz.prog 17 #[.pointer (some ⟨lb, 0, none⟩), .pointer (some ⟨cb, 1, none⟩)] w fun e w' => e = .panicked (lineV (t + 1)) ∧ Kp2 lb cb w w' ∧ ∃ l, w'.heap[cb]? = some (.cells (limV l) 29) := by
  have hyl : y.length ≤ 100000 := by rw [unl_cons] at hm; simp at hm; omega
  have MU := Lib.hid (must_yes B lb t wLim y ls tl w h hw hn hp hm ht)
  obtain ⟨s, hs⟩ : ∃ s, y.drop wLim.length = s := ⟨_, rfl⟩
  rw [show y.drop 7 = s from hs] at h6
  rw [hs] at MU
  have hsl : s.length ≤ 100000 := by rw [← hs, List.length_drop]; omega
  have SP := Lib.hid (fun W (hW : WC B W) => split_c s W (by omega) hW.max)
  obtain ⟨ws, hws⟩ : ∃ ws, wordsP s = ws := ⟨_, rfl⟩
  rw [hws] at h6 SP
  have FL := Lib.hid (fun W (hL : LnAt W lb (unl ls tl) t) => fail_c lb t _ W hL (by omega))
  have ht1 : (t : Int) ≤ 100000 := by omega
  have e1 : (t : Int) + 1 - 1 = t := by omega
  have h6i : ¬ (ws.length : Int) = 6 := by omega
  have HWC := Lib.hid hw
  have HC := Lib.hid hc
  have HCL := Lib.hid (lt_of hc)
  clear h hw hn hm hyl hs hsl hws hp hc
  go_enter Tryz.func17, Tryz.ntmps17
  go_wp2_with fail
  refine MU.out.mono ?_
  rintro e w1 ⟨rfl, hL1, hg1⟩
  have HL1 := Lib.hid hL1
  have HG1 := Lib.hid hg1
  have HW1 := Lib.hid (HWC.out.gr hBl hg1)
  clear hL1 hg1 MU
  go_wp2_with fail
  refine (SP.out w1 HW1.out).mono ?_
  rintro e w2 ⟨rfl, hw2⟩
  have HB2 : Hid (Below w1.heap.size w1 w2) := Lib.hid (by rw [hw2]; exact (Below.refl _ _).alloc (Nat.le_refl _) _)
  clear hw2 SP
  go_wp2_with fail
  refine (limits_c cb w2).mono ?_
  rintro e w3 ⟨rfl, hpt, hb3⟩
  have hb13 : Below w1.heap.size w1 w3 := HB2.out.trans (hb3.mono HB2.out.size)
  have hL3 := HL1.out.below hb13
  have c1 : w3.cell? ⟨lb, 1, none⟩ = some (.int .i64 ((t : Int) + 1)) := by rw [cell_of 1 hL3]; rfl
  have f1 := free_of 1 hL3
  have HL4 : Hid (LnAt (w3.setCell ⟨lb, 1, none⟩ (.int .i64 (t : Int))) lb (unl ls tl) t) := Lib.hid (hp_set hL3)
  have HG4 : Hid (w.grownBy (w3.setCell ⟨lb, 1, none⟩ (.int .i64 (t : Int))) (some lb)) := Lib.hid ((HG1.out.trans' (hb13.gr _)).setCell 1 _)
  clear hpt hb3 hb13 hL3
  go_wp2_with fail
  refine (FL.out _ HL4.out).mono ?_
  rintro e w5 ⟨rfl, rfl⟩
  go_wp2
  exact bodyPost_pan rfl ⟨rfl, .of1 HG4.out, _, (HG4.out.block _ HCL.out fun e => hne (Option.some.inj e).symm).trans HC.out⟩
/-- What limP answers nothing for. -/
theorem limP_none {y : List UInt8} (h : limP numD y = none) : wLim.isPrefixOf y = false ∨ wLim.isPrefixOf y = true ∧ ((wordsP (y.drop 7)).length ≠ 6 ∨ (wordsP (y.drop 7)).length = 6 ∧ (wordsP (y.drop 7)).mapM numD = none) := by
  unfold limP at h
  cases hp : wLim.isPrefixOf y with
  | false => exact .inl rfl
  | true =>
    rw [hp, if_pos rfl] at h
    by_cases h6 : (wordsP (y.drop 7)).length = 6
    · rw [if_pos h6] at h
      exact .inr ⟨rfl, .inr ⟨h6, h⟩⟩
    · exact .inr ⟨rfl, .inl h6⟩
/-- The first line, where it says nothing. -/
theorem lnLimits_no (B lb cb t : Nat) (ls : List (List UInt8)) (tl : List UInt8) (w : World) (h : LnAt w lb (unl ls tl) t) (hw : WC B w) (hc : w.heap[cb]? = some (.cells (limV []) 29)) (hBl : B ≤ lb) (hBc : B ≤ cb) (hne : lb ≠ cb) (hn : ∀ x ∈ ls, (10 : UInt8) ∉ x) (hn2 : (10 : UInt8) ∉ tl) (hp : ∀ y r, ls = y :: r → limP numD y = none) (hm : (unl ls tl).length ≤ 100000) (ht : t ≤ 100000) :
    Calls Tryz.prog 17 #[.pointer (some ⟨lb, 0, none⟩), .pointer (some ⟨cb, 1, none⟩)] w fun e w' => e = .panicked (lineV (t + 1)) ∧ Kp2 lb cb w w' ∧ ∃ l, w'.heap[cb]? = some (.cells (limV l) 29) := by
  cases ls with
  | nil => exact lnLimits_no1 B lb cb t [] tl w h hw hc hn hn2 rfl hm ht
  | cons y r =>
    rcases limP_none (hp y r rfl) with h1 | ⟨h1, h2 | ⟨h2, h3⟩⟩
    · exact lnLimits_no1 B lb cb t _ tl w h hw hc hn hn2 (by simp [takeP, h1]) hm ht
    · exact lnLimits_no2 B lb cb t y r tl w h hw hc hne hBl (hn y (by simp)) h1 h2 hm ht
    · exact lnLimits_no3 B lb cb t y r tl w h hw hc hBl hBc hne (hn y (by simp)) h1 h2 h3 hm ht
end Go.Proofs.YtbllodeanfdebaaGreatDoor
