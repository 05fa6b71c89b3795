/- Odd texts: what no line can tell; the faults of a case. -/
import Derived.Test.YtbllodeanfdebaaGreatDoorRows
import Derived.WalkKit
import Derived.ProofKit
import Derived.OpenShut
import Derived.ShutString
import Derived.ChangeOld
import Derived.Below
import Derived.BigQuiet
import Derived.Deep.QuietTactic
import Derived.Lib.Hide
import Derived.Deep.RegionHeld3
import Derived.Lib.SlBytesConst
import Derived.Laws.CopyOwn
import Derived.Laws.CopyRow
import Derived.Lib.Bytes
import Derived.Deep.LoopGhost
import Derived.Deep.DeepFit
import Derived.Deep.DeepMust
import Derived.WalkSpells
import Derived.WalkLawsBesides
import Derived.Laws.EntriesVeiled
import Derived.Lib.IndexBytes
import Derived.Deep.RegionWith
import Derived.Tactics2
import Derived.Laws.Rows
import Derived.Lib.Replace
import Derived.Lib.Split
import Derived.Lib.ItoaNum
import Derived.Lib.AtoiAllCases
import Derived.Lib.AtoiErrMem
import Derived.Lib.AppendIntMem
import Derived.Maps.OwnOps
import Derived.Maps.OwnSet
import Derived.Maps.Views
import Derived.Maps.AppendAt
import Derived.Deep.AppendLies
import Derived.Defers
import Derived.Recover
import Derived.Laws.Pointers
import Derived.Test.YtbllodeanfdebaaGreatDoorShelf
import Derived.Test.YtbllodeanfdebaaGreatDoorBase
import Derived.Test.YtbllodeanfdebaaGreatDoorCsE
import Derived.Test.YtbllodeanfdebaaGreatDoorCsG
import Derived.Test.YtbllodeanfdebaaGreatDoorCsH
import Derived.Test.YtbllodeanfdebaaGreatDoorCsI
import Derived.Test.YtbllodeanfdebaaGreatDoorCsJ
import Derived.Test.YtbllodeanfdebaaGreatDoorCalm
import Derived.Test.YtbllodeanfdebaaGreatDoorCsL
import Derived.Test.YtbllodeanfdebaaGreatDoorRowS
import Derived.Test.YtbllodeanfdebaaGreatDoorRowG
import Derived.Test.YtbllodeanfdebaaGreatDoorCsO
import Derived.Test.YtbllodeanfdebaaGreatDoorCsM
import Derived.Test.YtbllodeanfdebaaGreatDoorCsN2
import Derived.Test.YtbllodeanfdebaaGreatDoorStL
import Derived.Test.YtbllodeanfdebaaGreatDoorCsO2
import Derived.Test.YtbllodeanfdebaaGreatDoorCsQ
import Derived.Test.YtbllodeanfdebaaGreatDoorStr
import Derived.Test.YtbllodeanfdebaaGreatDoorCsR
import Derived.Test.YtbllodeanfdebaaGreatDoorCsS
import Derived.Test.YtbllodeanfdebaaGreatDoorCsT
import Derived.Test.YtbllodeanfdebaaGreatDoorCsU
import Derived.Test.YtbllodeanfdebaaGreatDoorCsV
import Derived.Test.YtbllodeanfdebaaGreatDoorCsW
import Derived.Test.YtbllodeanfdebaaGreatDoorCsY
namespace Go.Proofs.YtbllodeanfdebaaGreatDoor
open Go.ChangeShapes Go.WideShapes Go.ChangeAt Go.RowKit
set_option linter.unusedVariables false
/-- A text that no line can tell. -/
def oddB (s : List UInt8) : Bool := s.isEmpty || decide ((10 : UInt8) ∈ s)
def badM (m : Int) : Bool := decide (m < 0) || decide (1099511627776 < m)
def badA (a : AnsC) : Bool := oddB a.id || !a.ok && decide (0 < a.data.length)
def wrongB (ms : List Int) (al : List (List UInt8)) (sc : List AnsC) : Bool := al.any oddB || ms.any badM || sc.any badA
def checkK (ms : List Int) (al : List (List UInt8)) (sc : List AnsC) : Int := if wrongB ms al sc = true then 2 else if 64 < al.length ∨ 256 < sc.length then 13 else 0
theorem any_step {α : Type} {l : List α} {k : Nat} {x : α} (p : α → Bool) (h : l[k]? = some x) : (l.take (k + 1)).any p = ((l.take k).any p || p x) := by
  have e1 : l.take (k + 1) = l.take k ++ [x] := by rw [List.take_add_one, h]; rfl
  rw [e1, List.any_append]
  simp
theorem any_hit {α : Type} {l : List α} {k : Nat} {x : α} (p : α → Bool) (h : l[k]? = some x) (hp : p x = true) : l.any p = true :=
  List.any_eq_true.2 ⟨x, List.mem_of_getElem? h, hp⟩
theorem oddB_false {s : List UInt8} (h : oddB s = false) : s ≠ [] ∧ (10 : UInt8) ∉ s := by
  unfold oddB at h
  rw [Bool.or_eq_false_iff] at h
  exact ⟨by simpa using h.1, of_decide_eq_false h.2⟩
theorem badA_false {a : AnsC} (h : badA a = false) : a.id ≠ [] ∧ (10 : UInt8) ∉ a.id ∧ (a.ok = false → a.data = []) := by
  unfold badA at h
  rw [Bool.or_eq_false_iff] at h
  refine ⟨(oddB_false h.1).1, (oddB_false h.1).2, fun ho => ?_⟩
  have h2 := h.2
  rw [ho] at h2
  have h3 : ¬ 0 < a.data.length := of_decide_eq_false (by simpa using h2)
  exact List.length_eq_zero_iff.1 (by omega)
theorem badM_false {m : Int} (h : badM m = false) : 0 ≤ m ∧ m ≤ 1099511627776 := by
  unfold badM at h
  rw [Bool.or_eq_false_iff] at h
  have h1 := of_decide_eq_false h.1
  have h2 := of_decide_eq_false h.2
  omega
theorem idx_some (s : List UInt8) (h : (10 : UInt8) ∈ s) : 0 ≤ Lib.index s [10] := by
  obtain ⟨a, b, rfl, ha⟩ := List.eq_append_cons_of_mem h
  rw [idx_app 10 a b ha]
  omega
set_option linter.unusedSimpArgs false in
set_option maxRecDepth 100000 in
set_option maxHeartbeats 4000000 in
theorem odd_c (s : List UInt8) (w : World) : Calls Tryz.prog 54 #[.string ⟨s.toArray⟩] w fun e w' => e = .returned (.bool (oddB s)) ∧ w = w' := by
  by_cases hs : s = []
  · subst hs
    go_enter Tryz.func54, Tryz.ntmps54
    go_wp2
    go_ret
    exact ⟨rfl, rfl⟩
  · have CC := Lib.hid (fun W => Tryz.strings_Contains_one ⟨s.toArray⟩ 10 W)
    have hx : (decide (0 ≤ Lib.indexByte (⟨s.toArray⟩ : ByteArray).data.toList 10)) = oddB s := by
      show decide (0 ≤ Lib.indexByte s 10) = oddB s
      have hie : s.isEmpty = false := by simpa using hs
      unfold oddB
      rw [← Lib.index_one, hie, Bool.false_or]
      by_cases h : (10 : UInt8) ∈ s
      · rw [decide_eq_true h, decide_eq_true (idx_some s h)]
      · rw [idx_none 10 s h, decide_eq_false h]
        rfl
    rw [hx] at CC
    have hse := str_bneC hs
    have hie : s.isEmpty = false := by simpa using hs
    generalize oddB s = B at *
    clear hx
    go_enter Tryz.func54, Tryz.ntmps54
    go_wp2_with fail
    refine (CC.out _).mono ?_
    rintro e w1 ⟨rfl, rfl⟩
    go_wp2
    go_ret
    exact ⟨rfl, rfl⟩
set_option linter.unusedSimpArgs false in
set_option maxRecDepth 100000 in
set_option maxHeartbeats 4000000 in
theorem oddIndex_c (A : Option Addr) (n cap : Nat) (l : List (List UInt8)) (w : World) (h : RRd cS1 1 w w.heap.size A n cap l) (hm : n ≤ 1000000) :
    Calls Tryz.prog 64 #[.slice A n cap, .func (.func 54) #[] #[]] w fun e w' => ∃ v : Int, e = .returned (.int .i64 v) ∧ decide (0 ≤ v) = l.any oddB ∧ w = w' := by
  have HP := Lib.hid h
  have HL := Lib.hid h.len
  have ec : ∀ args W, (callFunc 54 args).run Tryz.prog W = .ok (.enter 54 args) W := enters_of Tryz.func54 (by kernel_rfl) rfl
  clear h
  go_enter Tryz.func64, Tryz.ntmps64
  go_wp2
  go_loopg [8] (n) (fun g i wr => ∃ t : Nat, i = .int .i64 (t : Int) ∧ t ≤ n ∧ Hid (g + t = n) ∧ Hid ((l.take t).any oddB = false) ∧ wr = w)
  case atStart => exact ⟨0, rfl, Nat.zero_le _, Lib.hid rfl, Lib.hid rfl, rfl⟩
  case round =>
    obtain ⟨t, rfl, ht, hg, HN, rfl⟩ := hrel
    have ht9 : (t : Int) ≤ 1000000 := by omega
    by_cases htn : t < n
    · have hti : (t : Int) < (n : Int) := by omega
      obtain ⟨b1, o1, x, rfl, hb1, hx, hc1⟩ := HP.out.cell htn
      have HX := Lib.hid hx
      have HC := Lib.hid (odd_c x wr)
      have y0 : wr.cell? ⟨b1, o1 + t, none⟩ = some (.string ⟨x.toArray⟩) := by rw [show o1 + t = o1 + (t * 1 + 0) by omega]; exact hc1 0 _ rfl
      clear hb1 hx hc1
      cases ho : oddB x with
      | true =>
        rw [ho] at HC
        have HA := Lib.hid (any_hit oddB HX.out ho)
        clear ho
        go_wp2_with fail
        refine HC.out.mono ?_
        rintro e w2 ⟨rfl, rfl⟩
        go_wp2
        go_ret
        exact ⟨_, rfl, by rw [HA.out]; exact decide_eq_true (by omega), rfl⟩
      | false =>
        rw [ho] at HC
        have HA : Hid ((l.take (t + 1)).any oddB = false) := Lib.hid (by rw [any_step oddB HX.out, HN.out, ho]; rfl)
        clear ho
        go_wp2_with fail
        refine HC.out.mono ?_
        rintro e w2 ⟨rfl, rfl⟩
        go_wp2
        go_roundg (n - (t + 1))
        case measure => have := hg.out; omega
        case rel => exact ⟨t + 1, by go_num, by omega, Lib.hid (by have := hg.out; omega), HA, rfl⟩
    · have hti : ¬ (t : Int) < (n : Int) := by omega
      have HA : Hid (l.any oddB = false) := Lib.hid (by have h9 := HN.out; rw [List.take_of_length_le (by rw [HL.out]; omega)] at h9; exact h9)
      go_wp2
      go_ret
      exact ⟨_, rfl, by rw [HA.out]; rfl, rfl⟩
set_option linter.unusedSimpArgs false in
set_option maxRecDepth 100000 in
set_option maxHeartbeats 4000000 in
theorem oddContains_c (A : Option Addr) (n cap : Nat) (l : List (List UInt8)) (w : World) (h : RRd cS1 1 w w.heap.size A n cap l) (hm : n ≤ 1000000) :
    Calls Tryz.prog 53 #[.slice A n cap, .func (.func 54) #[] #[]] w fun e w' => e = .returned (.bool (l.any oddB)) ∧ w = w' := by
  have C1 := Lib.hid (oddIndex_c A n cap l w h hm)
  obtain ⟨b, hb⟩ : ∃ b, l.any oddB = b := ⟨_, rfl⟩
  rw [hb] at C1 ⊢
  clear h hm hb
  go_enter Tryz.func53, Tryz.ntmps53
  go_wp2_with fail
  refine C1.out.mono ?_
  rintro e w1 ⟨v, rfl, hv, rfl⟩
  subst hv
  go_wp2
  go_ret
  exact ⟨rfl, rfl⟩
end Go.Proofs.YtbllodeanfdebaaGreatDoor
