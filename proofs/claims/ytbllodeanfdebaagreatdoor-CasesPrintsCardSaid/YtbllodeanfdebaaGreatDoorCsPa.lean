/- bars, and a case as one text. -/
import Derived.Test.YtbllodeanfdebaaGreatDoorRows
import Derived.WalkKit
import Derived.ProofKit
import Derived.OpenShut
import Derived.ShutString
import Derived.ChangeOld
import Derived.Below
import Derived.BigQuiet
import Derived.Deep.QuietTactic
import Derived.Lib.Hide
import Derived.Deep.RegionHeld3
import Derived.Lib.SlBytesConst
import Derived.Laws.CopyOwn
import Derived.Laws.CopyRow
import Derived.Lib.Bytes
import Derived.Deep.LoopGhost
import Derived.Deep.DeepFit
import Derived.Deep.DeepMust
import Derived.WalkSpells
import Derived.WalkLawsBesides
import Derived.Laws.EntriesVeiled
import Derived.Lib.IndexBytes
import Derived.Deep.RegionWith
import Derived.Tactics2
import Derived.Laws.Rows
import Derived.Lib.Replace
import Derived.Lib.Split
import Derived.Lib.ItoaNum
import Derived.Lib.AtoiAllCases
import Derived.Lib.AtoiErrMem
import Derived.Lib.AppendIntMem
import Derived.Maps.OwnOps
import Derived.Maps.OwnSet
import Derived.Maps.Views
import Derived.Maps.AppendAt
import Derived.Deep.AppendLies
import Derived.Defers
import Derived.Recover
import Derived.Laws.Pointers
import Derived.Test.YtbllodeanfdebaaGreatDoorShelf
import Derived.Test.YtbllodeanfdebaaGreatDoorBase
import Derived.Test.YtbllodeanfdebaaGreatDoorCsE
import Derived.Test.YtbllodeanfdebaaGreatDoorCsG
import Derived.Test.YtbllodeanfdebaaGreatDoorCsH
import Derived.Test.YtbllodeanfdebaaGreatDoorCsI
import Derived.Test.YtbllodeanfdebaaGreatDoorCsJ
import Derived.Test.YtbllodeanfdebaaGreatDoorCalm
import Derived.Test.YtbllodeanfdebaaGreatDoorCsL
import Derived.Test.YtbllodeanfdebaaGreatDoorRowS
import Derived.Test.YtbllodeanfdebaaGreatDoorRowG
import Derived.Test.YtbllodeanfdebaaGreatDoorCsO
import Derived.Test.YtbllodeanfdebaaGreatDoorCsM
import Derived.Test.YtbllodeanfdebaaGreatDoorCsN2
import Derived.Test.YtbllodeanfdebaaGreatDoorStL
import Derived.Test.YtbllodeanfdebaaGreatDoorCsO2
import Derived.Test.YtbllodeanfdebaaGreatDoorCsQ
import Derived.Test.YtbllodeanfdebaaGreatDoorStr
import Derived.Test.YtbllodeanfdebaaGreatDoorCsR
import Derived.Test.YtbllodeanfdebaaGreatDoorCsS
import Derived.Test.YtbllodeanfdebaaGreatDoorCsT
import Derived.Test.YtbllodeanfdebaaGreatDoorCsU
import Derived.Test.YtbllodeanfdebaaGreatDoorCsV
import Derived.Test.YtbllodeanfdebaaGreatDoorCsW
import Derived.Test.YtbllodeanfdebaaGreatDoorCsY
import Derived.Test.YtbllodeanfdebaaGreatDoorCsZ
namespace Go.Proofs.YtbllodeanfdebaaGreatDoor
open Go.ChangeShapes Go.WideShapes Go.ChangeAt Go.RowKit
set_option linter.unusedVariables false
theorem count_le10 (s : List UInt8) : Lib.countB ⟨s.toArray⟩ ⟨#[10]⟩ ≤ s.length := by
  have := Lib.countB_le ⟨#[10]⟩ (by decide) s.length ⟨s.toArray⟩ (by rw [sz_of]; exact Nat.le_refl _)
  rwa [sz_of] at this
theorem replace_c (B : Nat) (s : List UInt8) (w : World) (hs : s.length ≤ 100000) (hw : WC B w) :
    Calls Tryz.prog 57 #[.string ⟨s.toArray⟩, .string ⟨#[10]⟩, .string ⟨#[10, 124]⟩] w fun e w' => e = .returned (.string ⟨(s.flatMap (fun c => if c = 10 then [10, 124] else [c])).toArray⟩) ∧ Below w.heap.size w w' := by
  obtain ⟨m, hm⟩ := hw.max
  rw [← replaceAll_bar]
  exact Tryz.strings_ReplaceAll ⟨s.toArray⟩ ⟨#[10]⟩ ⟨#[10, 124]⟩ m w (by rw [sz_of]; omega) hm (by decide) (by
    have h1 := count_le10 s
    rw [sz_of]
    show s.length + Lib.countB ⟨s.toArray⟩ ⟨#[10]⟩ * 2 ≤ _
    omega)
theorem bar_len (s : List UInt8) : (s.flatMap (fun c => if c = 10 then ([10, 124] : List UInt8) else [c])).length ≤ 2 * s.length := by
  induction s with
  | nil => simp
  | cons c s ih =>
    rw [List.flatMap_cons, List.length_append, List.length_cons]
    have h9 : (if c = 10 then ([10, 124] : List UInt8) else [c]).length ≤ 2 := by split <;> simp
    omega
set_option linter.unusedSimpArgs false in
set_option maxRecDepth 100000 in
set_option maxHeartbeats 4000000 in
theorem bars_c (B : Nat) (A : Option Addr) (n cap : Nat) (l : List UInt8) (w : World) (h : Byt w w.heap.size A n cap l) (hm : n ≤ 100000) (hw : WC B w) :
    Calls Tryz.prog 36 #[.slice A n cap] w fun e w' => e = .returned (.string ⟨(barT l).toArray⟩) ∧ Below w.heap.size w w' := by
  have hst := h.str
  have hln := h.length
  have RC := Lib.hid (replace_c B l w (by omega) hw)
  have hbl := bar_len l
  obtain ⟨r, hr⟩ : ∃ r, l.flatMap (fun c => if c = 10 then ([10, 124] : List UInt8) else [c]) = r := ⟨_, rfl⟩
  have hbt : Hid (barT l = [124] ++ r ++ [10]) := Lib.hid (by unfold barT; rw [hr]; rfl)
  rw [hr] at RC hbl
  have hrl : r.length ≤ 200000 := by omega
  have h1 : ∀ W, (Op.stringOp .add ⟨#[124]⟩ ⟨r.toArray⟩).run Tryz.prog W = .ok (.string ⟨([124] ++ r).toArray⟩) W := fun W => run_sop [124] r (by simp; omega)
  have h2 : ∀ W, (Op.stringOp .add ⟨([124] ++ r).toArray⟩ ⟨#[10]⟩).run Tryz.prog W = .ok (.string ⟨([124] ++ r ++ [10]).toArray⟩) W := fun W => run_sop ([124] ++ r) [10] (by simp; omega)
  have h3 : ∀ W, (binOp .add 9 (.string ⟨#[124]⟩) (.string ⟨r.toArray⟩)).run Tryz.prog W = .ok (.string ⟨([124] ++ r).toArray⟩) W := fun W => run_catC [124] r (by simp; omega)
  have h4 : ∀ W, (binOp .add 9 (.string ⟨([124] ++ r).toArray⟩) (.string ⟨#[10]⟩)).run Tryz.prog W = .ok (.string ⟨([124] ++ r ++ [10]).toArray⟩) W := fun W => run_catC ([124] ++ r) [10] (by simp; omega)
  clear h hln hr hw
  generalize ([124] ++ r : List UInt8) = r1 at *
  generalize (r1 ++ [10] : List UInt8) = r2 at *
  rw [hbt.out]
  clear hbt
  go_enter Tryz.func36, Tryz.ntmps36
  go_wp2_with fail
  refine RC.out.mono ?_
  rintro e w1 ⟨rfl, hb⟩
  have HB := Lib.hid hb
  clear hb
  go_wp2
  go_ret
  exact ⟨rfl, HB.out⟩
theorem unl_app (a b : List (List UInt8)) (tl : List UInt8) : unl (a ++ b) tl = unl a [] ++ unl b tl := by simp [unl]
theorem unl_map (w : List UInt8) : ∀ al : List (List UInt8), unl (al.map (fun p => w ++ p)) [] = al.flatMap (fun p => w ++ p ++ [10])
  | [] => rfl
  | p :: al => by rw [List.map_cons, unl_cons, List.flatMap_cons, unl_map w al]; simp
def ansT (a : AnsC) : List UInt8 := if a.ok = true then wOk ++ a.id ++ [10] ++ barT a.data else wNo ++ a.id ++ [10]
theorem unl_ans : ∀ sc : List AnsC, unl (sc.flatMap ansLines) [] = sc.flatMap ansT
  | [] => rfl
  | a :: sc => by
    rw [List.flatMap_cons, unl_app, List.flatMap_cons, unl_ans sc]
    congr 1
    unfold ansLines ansT
    split
    · rw [unl_cons, ← barT_lines]
      simp
    · simp [unl]
def wLims : List UInt8 := [108, 105, 109, 105, 116, 115]
/-- A case's lines as one text. -/
theorem print_flat (c : CaseC) (h : c.lim ≠ []) : printC Lib.decDigits c = wLims ++ c.lim.flatMap (fun n => [32] ++ Lib.decDigits n) ++ [10] ++ c.allow.flatMap (fun p => wAllow ++ p ++ [10]) ++ c.script.flatMap ansT ++ (wDoc ++ [10] ++ barT c.doc) := by
  unfold printC linesC
  rw [unl_cons, unl_app, unl_app, unl_map, unl_ans, unl_cons, ← barT_lines, limT_flat _ _ h]
  simp [wLims]
theorem bar_lo (s : List UInt8) : s.length ≤ (barT s).length := by
  unfold barT
  have : ∀ s : List UInt8, s.length ≤ (s.flatMap (fun c => if c = 10 then ([10, 124] : List UInt8) else [c])).length := fun s => by
    induction s with
    | nil => simp
    | cons c s ih =>
      rw [List.flatMap_cons, List.length_append, List.length_cons]
      have h9 : 1 ≤ (if c = 10 then ([10, 124] : List UInt8) else [c]).length := by split <;> simp
      omega
  have := this s
  simp only [List.cons_append, List.length_cons, List.length_append, List.length_nil]
  omega
end Go.Proofs.YtbllodeanfdebaaGreatDoor
