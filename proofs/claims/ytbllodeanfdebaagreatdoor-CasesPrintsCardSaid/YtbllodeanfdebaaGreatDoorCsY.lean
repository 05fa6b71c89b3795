/- Nothing odd in a row of strings; a case in memory. -/
import Derived.Test.YtbllodeanfdebaaGreatDoorRows
import Derived.WalkKit
import Derived.ProofKit
import Derived.OpenShut
import Derived.ShutString
import Derived.ChangeOld
import Derived.Below
import Derived.BigQuiet
import Derived.Deep.QuietTactic
import Derived.Lib.Hide
import Derived.Deep.RegionHeld3
import Derived.Lib.SlBytesConst
import Derived.Laws.CopyOwn
import Derived.Laws.CopyRow
import Derived.Lib.Bytes
import Derived.Deep.LoopGhost
import Derived.Deep.DeepFit
import Derived.Deep.DeepMust
import Derived.WalkSpells
import Derived.WalkLawsBesides
import Derived.Laws.EntriesVeiled
import Derived.Lib.IndexBytes
import Derived.Deep.RegionWith
import Derived.Tactics2
import Derived.Laws.Rows
import Derived.Lib.Replace
import Derived.Lib.Split
import Derived.Lib.ItoaNum
import Derived.Lib.AtoiAllCases
import Derived.Lib.AtoiErrMem
import Derived.Lib.AppendIntMem
import Derived.Maps.OwnOps
import Derived.Maps.OwnSet
import Derived.Maps.Views
import Derived.Maps.AppendAt
import Derived.Deep.AppendLies
import Derived.Defers
import Derived.Recover
import Derived.Laws.Pointers
import Derived.Test.YtbllodeanfdebaaGreatDoorShelf
import Derived.Test.YtbllodeanfdebaaGreatDoorBase
import Derived.Test.YtbllodeanfdebaaGreatDoorCsE
import Derived.Test.YtbllodeanfdebaaGreatDoorCsG
import Derived.Test.YtbllodeanfdebaaGreatDoorCsH
import Derived.Test.YtbllodeanfdebaaGreatDoorCsI
import Derived.Test.YtbllodeanfdebaaGreatDoorCsJ
import Derived.Test.YtbllodeanfdebaaGreatDoorCalm
import Derived.Test.YtbllodeanfdebaaGreatDoorCsL
import Derived.Test.YtbllodeanfdebaaGreatDoorRowS
import Derived.Test.YtbllodeanfdebaaGreatDoorRowG
import Derived.Test.YtbllodeanfdebaaGreatDoorCsO
import Derived.Test.YtbllodeanfdebaaGreatDoorCsM
import Derived.Test.YtbllodeanfdebaaGreatDoorCsN2
import Derived.Test.YtbllodeanfdebaaGreatDoorStL
import Derived.Test.YtbllodeanfdebaaGreatDoorCsO2
import Derived.Test.YtbllodeanfdebaaGreatDoorCsQ
import Derived.Test.YtbllodeanfdebaaGreatDoorStr
import Derived.Test.YtbllodeanfdebaaGreatDoorCsR
import Derived.Test.YtbllodeanfdebaaGreatDoorCsS
import Derived.Test.YtbllodeanfdebaaGreatDoorCsT
import Derived.Test.YtbllodeanfdebaaGreatDoorCsU
import Derived.Test.YtbllodeanfdebaaGreatDoorCsV
import Derived.Test.YtbllodeanfdebaaGreatDoorCsW
namespace Go.Proofs.YtbllodeanfdebaaGreatDoor
open Go.ChangeShapes Go.WideShapes Go.ChangeAt Go.RowKit
set_option linter.unusedVariables false
theorem odd_no (s : List UInt8) (w : World) (h1 : s ≠ []) (h2 : (10 : UInt8) ∉ s) : Calls Tryz.prog 54 #[.string ⟨s.toArray⟩] w fun e w' => e = .returned (.bool false) ∧ w = w' := by
  have CC := Lib.hid (fun W => Tryz.strings_Contains_one ⟨s.toArray⟩ 10 W)
  have hx : (decide (0 ≤ Lib.indexByte (⟨s.toArray⟩ : ByteArray).data.toList 10)) = false := by
    show decide (0 ≤ Lib.indexByte s 10) = false
    rw [← Lib.index_one, idx_none 10 s h2]
    rfl
  rw [hx] at CC
  have hse := str_bneC h1
  have hie : s.isEmpty = false := by simpa using h1
  clear h2 hx
  go_enter Tryz.func54, Tryz.ntmps54
  go_wp2_with fail
  refine (CC.out _).mono ?_
  rintro e w1 ⟨rfl, rfl⟩
  go_wp2
  go_ret
  exact ⟨rfl, rfl⟩
set_option linter.unusedSimpArgs false in
set_option maxRecDepth 100000 in
set_option maxHeartbeats 4000000 in
theorem oddIndex_no (A : Option Addr) (n cap : Nat) (l : List (List UInt8)) (w : World) (h : RRd cS1 1 w w.heap.size A n cap l) (hm : n ≤ 1000000) (ho : ∀ p ∈ l, p ≠ [] ∧ (10 : UInt8) ∉ p) :
    Calls Tryz.prog 64 #[.slice A n cap, .func (.func 54) #[] #[]] w fun e w' => e = .returned (.int .i64 (-1)) ∧ w = w' := by
  have HP := Lib.hid h
  have HM := Lib.hid (fun x (hx : x ∈ l) W => odd_no x W (ho x hx).1 (ho x hx).2)
  have ec : ∀ args W, (callFunc 54 args).run Tryz.prog W = .ok (.enter 54 args) W := enters_of Tryz.func54 (by kernel_rfl) rfl
  clear h ho
  go_enter Tryz.func64, Tryz.ntmps64
  go_wp2
  go_loopg [8] (n) (fun g i wr => ∃ t : Nat, i = .int .i64 (t : Int) ∧ t ≤ n ∧ Hid (g + t = n) ∧ wr = w)
  case atStart => exact ⟨0, rfl, Nat.zero_le _, Lib.hid rfl, rfl⟩
  case round =>
    obtain ⟨t, rfl, ht, hg, rfl⟩ := hrel
    have ht9 : (t : Int) ≤ 1000000 := by omega
    by_cases htn : t < n
    · have hti : (t : Int) < (n : Int) := by omega
      obtain ⟨b1, o1, x, rfl, hb1, hx, hc1⟩ := HP.out.cell htn
      have HC := Lib.hid (HM.out x (List.mem_of_getElem? hx) wr)
      have y0 : wr.cell? ⟨b1, o1 + t, none⟩ = some (.string ⟨x.toArray⟩) := by rw [show o1 + t = o1 + (t * 1 + 0) by omega]; exact hc1 0 _ rfl
      clear hb1 hx hc1
      go_wp2_with fail
      refine HC.out.mono ?_
      rintro e w2 ⟨rfl, rfl⟩
      go_wp2
      go_roundg (n - (t + 1))
      case measure => have := hg.out; omega
      case rel => exact ⟨t + 1, by go_num, by omega, Lib.hid (by have := hg.out; omega), rfl⟩
    · have hti : ¬ (t : Int) < (n : Int) := by omega
      go_wp2
      go_ret
      exact ⟨rfl, rfl⟩
set_option linter.unusedSimpArgs false in
set_option maxRecDepth 100000 in
set_option maxHeartbeats 4000000 in
theorem oddContains_no (A : Option Addr) (n cap : Nat) (l : List (List UInt8)) (w : World) (h : RRd cS1 1 w w.heap.size A n cap l) (hm : n ≤ 1000000) (ho : ∀ p ∈ l, p ≠ [] ∧ (10 : UInt8) ∉ p) :
    Calls Tryz.prog 53 #[.slice A n cap, .func (.func 54) #[] #[]] w fun e w' => e = .returned (.bool false) ∧ w = w' := by
  have C1 := Lib.hid (oddIndex_no A n cap l w h hm ho)
  clear h hm ho
  go_enter Tryz.func53, Tryz.ntmps53
  go_wp2_with fail
  refine C1.out.mono ?_
  rintro e w1 ⟨rfl, rfl⟩
  go_wp2
  go_ret
  exact ⟨rfl, rfl⟩
/-- A case that lies in memory. -/
structure CIn (w : World) (c : CaseC) (A1 A2 A3 : Option Addr) (c1 c2 c3 : Nat) (ys : List AnV) : Prop where
  doc : Byt w w.heap.size A1 c.doc.length c1 c.doc
  al : RRd cS1 1 w w.heap.size A2 c.allow.length c2 c.allow
  ym : ys.map AnV.a = c.script
  sc : RRd cAn 3 w w.heap.size A3 c.script.length c3 ys
  dat : ∀ y ∈ ys, Byt w w.heap.size y.A y.a.data.length y.cap y.a.data
theorem CIn.up {w w' : World} {c : CaseC} {A1 A2 A3 : Option Addr} {c1 c2 c3 : Nat} {ys : List AnV} (h : CIn w c A1 A2 A3 c1 c2 c3 ys) (hb : Below w.heap.size w w') : CIn w' c A1 A2 A3 c1 c2 c3 ys :=
  ⟨(h.doc.below hb).more hb.size, (h.al.below hb).more hb.size, h.ym, (h.sc.below hb).more hb.size, fun y hy => ((h.dat y hy).below hb).more hb.size⟩
/-- A case that can be printed, of the sizes met here. -/
structure CGood (c : CaseC) : Prop where
  six : c.lim.length = 6
  nums : ∀ n ∈ c.lim, n ≤ 1099511627776
  allow : ∀ p ∈ c.allow, p ≠ [] ∧ (10 : UInt8) ∉ p
  script : ∀ a ∈ c.script, a.id ≠ [] ∧ (10 : UInt8) ∉ a.id ∧ (a.ok = false → a.data = [])
  na : c.allow.length ≤ 64
  ns : c.script.length ≤ 256
  sum : c.doc.length + (c.script.map (fun a => a.data.length)).sum ≤ 100000
  len : (printC Lib.decDigits c).length ≤ 100000
theorem CIn.sum {w : World} {c : CaseC} {A1 A2 A3 : Option Addr} {c1 c2 c3 : Nat} {ys : List AnV} (h : CIn w c A1 A2 A3 c1 c2 c3 ys) : sumD ys = (c.script.map (fun a => a.data.length)).sum := by
  rw [← h.ym, List.map_map]
  rfl
def caseW (c : CaseC) (A1 A2 A3 : Option Addr) (c1 c2 c3 : Nat) : Value := .agg (caseV (.slice A1 c.doc.length c1) c.lim (.slice A2 c.allow.length c2) (.slice A3 c.script.length c3))
end Go.Proofs.YtbllodeanfdebaaGreatDoor
