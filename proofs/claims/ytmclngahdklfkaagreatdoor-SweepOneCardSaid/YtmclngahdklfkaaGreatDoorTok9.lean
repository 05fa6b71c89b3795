/- Rows of strings; the last one. -/
import Derived.Test.YtmclngahdklfkaaGreatDoorRows
import Derived.Test.YtmclngahdklfkaaGreatDoorQX
import Derived.WalkKit
import Derived.ProofKit
import Derived.OpenShut
import Derived.ShutString
import Derived.ChangeOld
import Derived.Below
import Derived.BigQuiet
import Derived.Deep.QuietTactic
import Derived.Lib.Hide
import Derived.Deep.RegionHeld3
import Derived.Lib.SlBytesConst
import Derived.Laws.CopyOwn
import Derived.Laws.CopyRow
import Derived.Lib.Bytes
import Derived.Deep.LoopGhost
import Derived.Deep.DeepFit
import Derived.Deep.DeepMust
import Derived.WalkSpells
import Derived.WalkLawsBesides
import Derived.Maps.OwnOps
import Derived.Maps.OwnSet
import Derived.Maps.Views
import Derived.Laws.EntriesVeiled
import Derived.Laws.Rows
import Derived.Maps.AppendAt
import Derived.Lib.SmallJoins
import Derived.Test.YtmclngahdklfkaaGreatDoorQ1
import Derived.Test.YtmclngahdklfkaaGreatDoorQ2
import Derived.Test.YtmclngahdklfkaaGreatDoorQ4
import Derived.Test.YtmclngahdklfkaaGreatDoorQ6
import Derived.Test.YtmclngahdklfkaaGreatDoorQ8
import Derived.Test.YtmclngahdklfkaaGreatDoorQ9
import Derived.Test.YtmclngahdklfkaaGreatDoorQ10
import Derived.Test.YtmclngahdklfkaaGreatDoorQ11
import Derived.Test.YtmclngahdklfkaaGreatDoorQ12
import Derived.Test.YtmclngahdklfkaaGreatDoorQ13
namespace Go.Proofs.YtmclngahdklfkaaGreatDoor
open Go.ChangeShapes Go.WideShapes Go.ChangeAt Go.RowKit
set_option linter.unusedVariables false
def strV (s : List UInt8) : Value := .string ⟨s.toArray⟩
/-- A row of strings of the call's own. -/
def OwnS (w : World) (base : Nat) (v : Value) (op : List (List UInt8)) : Prop := w.ownsRow base 9 1 v op.length (op.map strV)
theorem OwnS.start (w : World) (base : Nat) : OwnS w base (.slice none 0 0) [] := ⟨rfl, .inl ⟨rfl, rfl⟩⟩
theorem OwnS.kept {w w' : World} {base : Nat} {v : Value} {op : List (List UInt8)} (h : OwnS w base v op) (hb : Below w.heap.size w w') : OwnS w' base v op := ownsRow_keep h fun g _ hg => hb.block g hg
theorem OwnS.form {w : World} {base : Nat} {v : Value} {op : List (List UInt8)} (h : OwnS w base v op) : ∃ A c, v = .slice A op.length c := by
  obtain ⟨hl, ⟨hv, h0⟩ | ⟨g, cap, cur, hv, r⟩⟩ := h
  · exact ⟨none, 0, by rw [hv, h0]⟩
  · exact ⟨_, cap, hv⟩
/-- The last one of a row that holds one: where it lies; the row without it. -/
theorem OwnS.last {w : World} {base : Nat} {v : Value} {op : List (List UInt8)} {s : List UInt8} (h : OwnS w base v (op ++ [s])) :
    ∃ g c, v = .slice (some ⟨g, 0, none⟩) (op.length + 1) c ∧ op.length + 1 ≤ c ∧ base ≤ g ∧ g < w.heap.size ∧ w.cell? ⟨g, op.length, none⟩ = some (strV s) ∧ OwnS w base (.slice (some ⟨g, 0, none⟩) op.length c) op := by
  obtain ⟨hl, ⟨hv, h0⟩ | ⟨g, cap, cur, hv, hg, hh, hn, hc, hs, ht⟩⟩ := h
  · simp at h0
  · rw [List.length_append, List.length_singleton] at hv hn ht
    refine ⟨g, cap, hv, hn, hg, lt_of hh, ?_, by simp, .inr ⟨g, cap, cur, rfl, hg, hh, by omega, hc, hs, ?_⟩⟩
    · rw [cell_of _ hh]
      have : (cur.toList.take ((op.length + 1) * 1))[op.length]? = some (strV s) := by rw [ht, List.map_append, List.getElem?_append_right (by simp)]; simp
      rw [List.getElem?_take_of_lt (by omega)] at this
      simpa using this
    · have := congrArg (List.take (op.length * 1)) ht
      rw [List.take_take, show min (op.length * 1) ((op.length + 1) * 1) = op.length * 1 by omega] at this
      rw [this, List.map_append, List.take_left' (by simp)]
theorem OwnS.cap {w : World} {base : Nat} {A : Option Addr} {c : Nat} {op : List (List UInt8)} (h : OwnS w base (.slice A op.length c) op) : op.length ≤ c ∧ c ≤ maxLen := by
  obtain ⟨hl, ⟨hv, h0⟩ | ⟨g, cap, cur, hv, hg, hh, hn, hc, hs, ht⟩⟩ := h
  · injection hv with h1 h2 h3
    exact ⟨by omega, by omega⟩
  · injection hv with h1 h2 h3
    exact ⟨by omega, by omega⟩
set_option maxRecDepth 100000 in
set_option maxHeartbeats 4000000 in
theorem last_no (base : Nat) (v : Value) (w : World) (h : OwnS w base v []) : Calls Tryz.prog 40 #[v] w fun e w' => e = .returned (.tuple #[.string ⟨#[]⟩, .slice none 0 0, .bool false]) ∧ w = w' := by
  obtain ⟨A, c, rfl⟩ := h.form
  clear h
  simp only [List.length_nil]
  go_enter Tryz.func40, Tryz.ntmps40
  go_wp2
  go_ret3
  exact ⟨rfl, rfl⟩
theorem run_cutS {w : World} (A : Option Addr) (n cap t : Nat) (ht : t ≤ cap) : (Instr.slice 71 (.slice A n cap) none (some (.int .i64 (t : Int))) none).run Tryz.prog w = .ok (.slice A t cap) w := by
  rw [run_slice_h (P := Tryz.prog) (w := w) 71 A n cap (by kernel_rfl) .i64 (t : Int) (by omega) (by omega), show (sizeOf (Tryz.prog.elem 71)).run Tryz.prog w = .ok 1 w by kernel_rfl]
  simp [sliced]
  intro _
  cases A with
  | none => rfl
  | some a => simp [Addr.add]
set_option maxRecDepth 100000 in
set_option maxHeartbeats 4000000 in
theorem last_yes (base : Nat) (v : Value) (w : World) (op : List (List UInt8)) (s : List UInt8) (h : OwnS w base v (op ++ [s])) (hm : op.length ≤ 1000000) : Calls Tryz.prog 40 #[v] w fun e w' => ∃ g c q, e = .returned (.tuple #[strV s, .slice (some ⟨g, 0, none⟩) op.length c, .bool true]) ∧ OwnS w base (.slice (some ⟨g, 0, none⟩) op.length c) op ∧ w' = w.drewN q := by
  obtain ⟨g, c, rfl, hc, hg, hgl, hz, ho⟩ := h.last
  have hcut := fun (W : World) => run_cutS (w := W) (some ⟨g, 0, none⟩) (op.length + 1) c op.length (by omega)
  have HO := Lib.hid ho
  have hi : ((op.length + 1 : Nat) : Int) - 1 = (op.length : Int) := by omega
  have n0 : (((op.length + 1 : Nat) : Int) == 0) = false := by simp; omega
  have h0 : (0 : Int) ≤ (op.length : Int) := by omega
  have h1 : (op.length : Int) < ((op.length + 1 : Nat) : Int) := by omega
  unfold strV at *
  clear h ho
  generalize op.length = m at *
  go_enter Tryz.func40, Tryz.ntmps40
  go_wp2_with fail
  go_quiet (fail)
  go_wp2
  go_ret3
  exact ⟨g, c, _, rfl, HO.out, rfl⟩
end Go.Proofs.YtmclngahdklfkaaGreatDoor
