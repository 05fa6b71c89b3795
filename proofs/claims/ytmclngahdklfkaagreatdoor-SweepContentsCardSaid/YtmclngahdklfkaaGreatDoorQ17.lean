/- Texts of ours, joined: Sw3, Sw4, Sw5, Sw6, Sw7, Sw8. -/
import Derived.Test.YtmclngahdklfkaaGreatDoorRows
import Derived.WalkKit
import Derived.ProofKit
import Derived.OpenShut
import Derived.ShutString
import Derived.ChangeOld
import Derived.Below
import Derived.BigQuiet
import Derived.Deep.QuietTactic
import Derived.Lib.Hide
import Derived.Deep.RegionHeld3
import Derived.Lib.SlBytesConst
import Derived.Laws.CopyOwn
import Derived.Laws.CopyRow
import Derived.Lib.Bytes
import Derived.Deep.LoopGhost
import Derived.Deep.DeepFit
import Derived.Deep.DeepMust
import Derived.WalkSpells
import Derived.WalkLawsBesides
import Derived.Maps.OwnOps
import Derived.Maps.OwnSet
import Derived.Maps.Views
import Derived.Laws.EntriesVeiled
import Derived.Laws.Rows
import Derived.Maps.AppendAt
import Derived.Lib.SmallJoins
import Derived.Deep.AppendLies
import Derived.Deep.RegionLaw
import Derived.Deep.RegionWith
import Derived.Test.YtmclngahdklfkaaGreatDoorQ1
import Derived.Test.YtmclngahdklfkaaGreatDoorQ7
import Derived.Test.YtmclngahdklfkaaGreatDoorQ3
import Derived.Test.YtmclngahdklfkaaGreatDoorQ2
import Derived.Test.YtmclngahdklfkaaGreatDoorQ5
import Derived.Test.YtmclngahdklfkaaGreatDoorQ6
import Derived.Test.YtmclngahdklfkaaGreatDoorQ8
import Derived.Test.YtmclngahdklfkaaGreatDoorQ9
import Derived.Test.YtmclngahdklfkaaGreatDoorQ10
import Derived.Test.YtmclngahdklfkaaGreatDoorQ11
import Derived.Test.YtmclngahdklfkaaGreatDoorQ12
import Derived.Test.YtmclngahdklfkaaGreatDoorQ13
import Derived.Test.YtmclngahdklfkaaGreatDoorQ14
import Derived.Test.YtmclngahdklfkaaGreatDoorQ15
import Derived.Test.YtmclngahdklfkaaGreatDoorQ16
/- sweep.may, kind by kind. -/
namespace Go.Proofs.YtmclngahdklfkaaGreatDoor
open Go.ChangeShapes Go.WideShapes Go.ChangeAt Go.RowKit
set_option linter.unusedVariables false
set_option maxRecDepth 100000 in
set_option maxHeartbeats 8000000 in
theorem may_k5 (sb base : Nat) (whole : Bool) (W : World) (sv : Value) (op : List (List UInt8)) (root : Bool) (fro to_ rr : Int) (name text : List UInt8) (ps : List PairL) (A : Option Addr) (n c : Nat) (hJ : SwJ sb base whole W sv op root) (hop : op.length ≤ 1000000) :
    Calls Tryz.prog 73 #[.pointer (some ⟨sb, 0, none⟩), .agg #[.int .i64 5, .int .i64 fro, .int .i64 to_, .string ⟨name.toArray⟩, .string ⟨text.toArray⟩, .slice A n c, .int .i64 rr]] W fun e w' => MayPost sb base whole W sv (mayS whole op root ⟨5, fro, to_, name, text, ps, rr⟩) e w' := by
  have ka := (Below.refl _ W).alloc (Nat.le_refl _) (.cells #[.int .i64 5, .int .i64 fro, .int .i64 to_, .string ⟨name.toArray⟩, .string ⟨text.toArray⟩, .slice A n c, .int .i64 rr] 26)
  have hJ1 := hJ.kept ka
  have hM1 : MF sb W (W.alloc (.cells #[.int .i64 5, .int .i64 fro, .int .i64 to_, .string ⟨name.toArray⟩, .string ⟨text.toArray⟩, .slice A n c, .int .i64 rr] 26)) sv sv := MF.ofBelow ka (by have := hJ.lt; have := hJ.le; omega)
  have q3 := hp_new W (.cells #[.int .i64 5, .int .i64 fro, .int .i64 to_, .string ⟨name.toArray⟩, .string ⟨text.toArray⟩, .slice A n c, .int .i64 rr] 26)
  have HInv := Lib.hid hJ.inv
  have hsW : sb < W.heap.size := by have := hJ.lt; have := hJ.le; omega
  obtain ⟨SA, SN, SC, hsv, hSN⟩ : ∃ SA SN SC, sv = .slice SA SN SC ∧ SN = op.length := by
    obtain ⟨a, b, h⟩ := hJ.own.form
    exact ⟨a, _, b, h, rfl⟩
  subst hsv
  have hSNb : (SN : Int) ≤ 1000000 := by omega
  clear hJ ka
  obtain ⟨V, hV⟩ : ∃ V, W.alloc (.cells #[.int .i64 5, .int .i64 fro, .int .i64 to_, .string ⟨name.toArray⟩, .string ⟨text.toArray⟩, .slice A n c, .int .i64 rr] 26) = V := ⟨_, rfl⟩
  rw [hV] at hJ1 hM1 q3
  have HJ1 := Lib.hid hJ1
  have HM1 := Lib.hid hM1
  have HQ3 := Lib.hid q3
  cases whole with
  | false =>
    have hsw : V.heap[sb]? = some (.cells #[.slice SA SN SC, .int .i64 0, .bool false] 78) := by have := HJ1.out.sw; simpa using this
    have z0 := cell_of 0 hsw
    have z1 := cell_of 1 hsw
    have z2 := cell_of 2 hsw
    have y1 := free_of 1 hsw
    clear hSN
    clear hop hSNb
    have x0 := cell_of 0 HQ3.out
    have x3 := cell_of 3 HQ3.out
    have x4 := cell_of 4 HQ3.out
    clear hJ1 hM1
    have hE : mayS false op root ⟨5, fro, to_, name, text, ps, rr⟩ = some (op, root) := by simp [mayS]
    rw [hE]
    go_enter Tryz.func73, Tryz.ntmps73
    go_wp2
    go_ret
    exact ⟨rfl, _, HJ1.out, HM1.out⟩
  | true =>
    cases op with
    | nil =>
      cases root with
      | false =>
        have hsw : V.heap[sb]? = some (.cells #[.slice SA SN SC, .int .i64 0, .bool true] 78) := by have := HJ1.out.sw; simpa using this
        have z0 := cell_of 0 hsw
        have z1 := cell_of 1 hsw
        have z2 := cell_of 2 hsw
        have y1 := free_of 1 hsw
        have hs0 : SN = 0 := by simpa using hSN
        clear hSN
        subst hs0
        clear hop hSNb
        have x0 := cell_of 0 HQ3.out
        have x3 := cell_of 3 HQ3.out
        have x4 := cell_of 4 HQ3.out
        clear hJ1 hM1
        have hE : mayS true [] false ⟨5, fro, to_, name, text, ps, rr⟩ = some ([], false) := by simp [mayS]
        rw [hE]
        go_enter Tryz.func73, Tryz.ntmps73
        go_wp2
        go_ret
        exact ⟨rfl, _, HJ1.out, HM1.out⟩
      | true =>
        have hsw : V.heap[sb]? = some (.cells #[.slice SA SN SC, .int .i64 1, .bool true] 78) := by have := HJ1.out.sw; simpa using this
        have z0 := cell_of 0 hsw
        have z1 := cell_of 1 hsw
        have z2 := cell_of 2 hsw
        have y1 := free_of 1 hsw
        have hs0 : SN = 0 := by simpa using hSN
        clear hSN
        subst hs0
        clear hop hSNb
        have x0 := cell_of 0 HQ3.out
        have x3 := cell_of 3 HQ3.out
        have x4 := cell_of 4 HQ3.out
        clear hJ1 hM1
        have hE : mayS true [] true ⟨5, fro, to_, name, text, ps, rr⟩ = some ([], true) := by simp [mayS]
        rw [hE]
        go_enter Tryz.func73, Tryz.ntmps73
        go_wp2
        go_ret
        exact ⟨rfl, _, HJ1.out, HM1.out⟩
    | cons a op =>
      obtain rfl : root = true := HInv.out rfl (by simp)
      have hsw : V.heap[sb]? = some (.cells #[.slice SA SN SC, .int .i64 1, .bool true] 78) := by have := HJ1.out.sw; simpa using this
      have z0 := cell_of 0 hsw
      have z1 := cell_of 1 hsw
      have z2 := cell_of 2 hsw
      have y1 := free_of 1 hsw
      have hsn : ((SN : Int) == 0) = false := by rw [hSN]; simp; omega
      clear hSN
      clear hop hSNb
      have x0 := cell_of 0 HQ3.out
      have x3 := cell_of 3 HQ3.out
      have x4 := cell_of 4 HQ3.out
      clear hJ1 hM1
      have hE : mayS true (a :: op) true ⟨5, fro, to_, name, text, ps, rr⟩ = some ((a :: op), true) := by simp [mayS]
      rw [hE]
      go_enter Tryz.func73, Tryz.ntmps73
      go_wp2
      go_ret
      exact ⟨rfl, _, HJ1.out, HM1.out⟩
set_option maxRecDepth 100000 in
set_option maxHeartbeats 8000000 in
theorem may_k6 (sb base : Nat) (whole : Bool) (W : World) (sv : Value) (op : List (List UInt8)) (root : Bool) (fro to_ rr : Int) (name text : List UInt8) (ps : List PairL) (A : Option Addr) (n c : Nat) (hJ : SwJ sb base whole W sv op root) (hop : op.length ≤ 1000000) :
    Calls Tryz.prog 73 #[.pointer (some ⟨sb, 0, none⟩), .agg #[.int .i64 6, .int .i64 fro, .int .i64 to_, .string ⟨name.toArray⟩, .string ⟨text.toArray⟩, .slice A n c, .int .i64 rr]] W fun e w' => MayPost sb base whole W sv (mayS whole op root ⟨6, fro, to_, name, text, ps, rr⟩) e w' := by
  have ka := (Below.refl _ W).alloc (Nat.le_refl _) (.cells #[.int .i64 6, .int .i64 fro, .int .i64 to_, .string ⟨name.toArray⟩, .string ⟨text.toArray⟩, .slice A n c, .int .i64 rr] 26)
  have hJ1 := hJ.kept ka
  have hM1 : MF sb W (W.alloc (.cells #[.int .i64 6, .int .i64 fro, .int .i64 to_, .string ⟨name.toArray⟩, .string ⟨text.toArray⟩, .slice A n c, .int .i64 rr] 26)) sv sv := MF.ofBelow ka (by have := hJ.lt; have := hJ.le; omega)
  have q3 := hp_new W (.cells #[.int .i64 6, .int .i64 fro, .int .i64 to_, .string ⟨name.toArray⟩, .string ⟨text.toArray⟩, .slice A n c, .int .i64 rr] 26)
  have HInv := Lib.hid hJ.inv
  have hsW : sb < W.heap.size := by have := hJ.lt; have := hJ.le; omega
  obtain ⟨SA, SN, SC, hsv, hSN⟩ : ∃ SA SN SC, sv = .slice SA SN SC ∧ SN = op.length := by
    obtain ⟨a, b, h⟩ := hJ.own.form
    exact ⟨a, _, b, h, rfl⟩
  subst hsv
  have hSNb : (SN : Int) ≤ 1000000 := by omega
  clear hJ ka
  obtain ⟨V, hV⟩ : ∃ V, W.alloc (.cells #[.int .i64 6, .int .i64 fro, .int .i64 to_, .string ⟨name.toArray⟩, .string ⟨text.toArray⟩, .slice A n c, .int .i64 rr] 26) = V := ⟨_, rfl⟩
  rw [hV] at hJ1 hM1 q3
  have HJ1 := Lib.hid hJ1
  have HM1 := Lib.hid hM1
  have HQ3 := Lib.hid q3
  cases whole with
  | false =>
    have hsw : V.heap[sb]? = some (.cells #[.slice SA SN SC, .int .i64 0, .bool false] 78) := by have := HJ1.out.sw; simpa using this
    have z0 := cell_of 0 hsw
    have z1 := cell_of 1 hsw
    have z2 := cell_of 2 hsw
    have y1 := free_of 1 hsw
    clear hSN
    clear hop hSNb
    have x0 := cell_of 0 HQ3.out
    have x3 := cell_of 3 HQ3.out
    have x4 := cell_of 4 HQ3.out
    clear hJ1 hM1
    have hE : mayS false op root ⟨6, fro, to_, name, text, ps, rr⟩ = some (op, root) := by simp [mayS]
    rw [hE]
    go_enter Tryz.func73, Tryz.ntmps73
    go_wp2
    go_ret
    exact ⟨rfl, _, HJ1.out, HM1.out⟩
  | true =>
    cases op with
    | nil =>
      cases root with
      | false =>
        have hsw : V.heap[sb]? = some (.cells #[.slice SA SN SC, .int .i64 0, .bool true] 78) := by have := HJ1.out.sw; simpa using this
        have z0 := cell_of 0 hsw
        have z1 := cell_of 1 hsw
        have z2 := cell_of 2 hsw
        have y1 := free_of 1 hsw
        have hs0 : SN = 0 := by simpa using hSN
        clear hSN
        subst hs0
        clear hop hSNb
        have x0 := cell_of 0 HQ3.out
        have x3 := cell_of 3 HQ3.out
        have x4 := cell_of 4 HQ3.out
        clear hJ1 hM1
        have hE : mayS true [] false ⟨6, fro, to_, name, text, ps, rr⟩ = some ([], false) := by simp [mayS]
        rw [hE]
        go_enter Tryz.func73, Tryz.ntmps73
        go_wp2
        go_ret
        exact ⟨rfl, _, HJ1.out, HM1.out⟩
      | true =>
        have hsw : V.heap[sb]? = some (.cells #[.slice SA SN SC, .int .i64 1, .bool true] 78) := by have := HJ1.out.sw; simpa using this
        have z0 := cell_of 0 hsw
        have z1 := cell_of 1 hsw
        have z2 := cell_of 2 hsw
        have y1 := free_of 1 hsw
        have hs0 : SN = 0 := by simpa using hSN
        clear hSN
        subst hs0
        clear hop hSNb
        have x0 := cell_of 0 HQ3.out
        have x3 := cell_of 3 HQ3.out
        have x4 := cell_of 4 HQ3.out
        clear hJ1 hM1
        have hE : mayS true [] true ⟨6, fro, to_, name, text, ps, rr⟩ = some ([], true) := by simp [mayS]
        rw [hE]
        go_enter Tryz.func73, Tryz.ntmps73
        go_wp2
        go_ret
        exact ⟨rfl, _, HJ1.out, HM1.out⟩
    | cons a op =>
      obtain rfl : root = true := HInv.out rfl (by simp)
      have hsw : V.heap[sb]? = some (.cells #[.slice SA SN SC, .int .i64 1, .bool true] 78) := by have := HJ1.out.sw; simpa using this
      have z0 := cell_of 0 hsw
      have z1 := cell_of 1 hsw
      have z2 := cell_of 2 hsw
      have y1 := free_of 1 hsw
      have hsn : ((SN : Int) == 0) = false := by rw [hSN]; simp; omega
      clear hSN
      clear hop hSNb
      have x0 := cell_of 0 HQ3.out
      have x3 := cell_of 3 HQ3.out
      have x4 := cell_of 4 HQ3.out
      clear hJ1 hM1
      have hE : mayS true (a :: op) true ⟨6, fro, to_, name, text, ps, rr⟩ = some ((a :: op), true) := by simp [mayS]
      rw [hE]
      go_enter Tryz.func73, Tryz.ntmps73
      go_wp2
      go_ret
      exact ⟨rfl, _, HJ1.out, HM1.out⟩
set_option maxRecDepth 100000 in
set_option maxHeartbeats 8000000 in
theorem may_k2 (sb base : Nat) (whole : Bool) (W : World) (sv : Value) (op : List (List UInt8)) (root : Bool) (fro to_ rr : Int) (name text : List UInt8) (ps : List PairL) (A : Option Addr) (n c : Nat) (hJ : SwJ sb base whole W sv op root) (hop : op.length ≤ 1000000) :
    Calls Tryz.prog 73 #[.pointer (some ⟨sb, 0, none⟩), .agg #[.int .i64 2, .int .i64 fro, .int .i64 to_, .string ⟨name.toArray⟩, .string ⟨text.toArray⟩, .slice A n c, .int .i64 rr]] W fun e w' => MayPost sb base whole W sv (mayS whole op root ⟨2, fro, to_, name, text, ps, rr⟩) e w' := by
  have ka := (Below.refl _ W).alloc (Nat.le_refl _) (.cells #[.int .i64 2, .int .i64 fro, .int .i64 to_, .string ⟨name.toArray⟩, .string ⟨text.toArray⟩, .slice A n c, .int .i64 rr] 26)
  have hJ1 := hJ.kept ka
  have hM1 : MF sb W (W.alloc (.cells #[.int .i64 2, .int .i64 fro, .int .i64 to_, .string ⟨name.toArray⟩, .string ⟨text.toArray⟩, .slice A n c, .int .i64 rr] 26)) sv sv := MF.ofBelow ka (by have := hJ.lt; have := hJ.le; omega)
  have q3 := hp_new W (.cells #[.int .i64 2, .int .i64 fro, .int .i64 to_, .string ⟨name.toArray⟩, .string ⟨text.toArray⟩, .slice A n c, .int .i64 rr] 26)
  have HInv := Lib.hid hJ.inv
  have hsW : sb < W.heap.size := by have := hJ.lt; have := hJ.le; omega
  obtain ⟨SA, SN, SC, hsv, hSN⟩ : ∃ SA SN SC, sv = .slice SA SN SC ∧ SN = op.length := by
    obtain ⟨a, b, h⟩ := hJ.own.form
    exact ⟨a, _, b, h, rfl⟩
  subst hsv
  have hSNb : (SN : Int) ≤ 1000000 := by omega
  clear hJ ka
  obtain ⟨V, hV⟩ : ∃ V, W.alloc (.cells #[.int .i64 2, .int .i64 fro, .int .i64 to_, .string ⟨name.toArray⟩, .string ⟨text.toArray⟩, .slice A n c, .int .i64 rr] 26) = V := ⟨_, rfl⟩
  rw [hV] at hJ1 hM1 q3
  have HJ1 := Lib.hid hJ1
  have HM1 := Lib.hid hM1
  have HQ3 := Lib.hid q3
  cases whole with
  | false =>
    have hsw : V.heap[sb]? = some (.cells #[.slice SA SN SC, .int .i64 0, .bool false] 78) := by have := HJ1.out.sw; simpa using this
    have z0 := cell_of 0 hsw
    have z1 := cell_of 1 hsw
    have z2 := cell_of 2 hsw
    have y1 := free_of 1 hsw
    clear hSN
    clear hop hSNb
    have x0 := cell_of 0 HQ3.out
    have x3 := cell_of 3 HQ3.out
    have x4 := cell_of 4 HQ3.out
    clear hJ1 hM1
    have hE : mayS false op root ⟨2, fro, to_, name, text, ps, rr⟩ = some (op, root) := by simp [mayS]
    rw [hE]
    go_enter Tryz.func73, Tryz.ntmps73
    go_wp2
    go_ret
    exact ⟨rfl, _, HJ1.out, HM1.out⟩
  | true =>
    cases op with
    | nil =>
      cases root with
      | false =>
        have hsw : V.heap[sb]? = some (.cells #[.slice SA SN SC, .int .i64 0, .bool true] 78) := by have := HJ1.out.sw; simpa using this
        have z0 := cell_of 0 hsw
        have z1 := cell_of 1 hsw
        have z2 := cell_of 2 hsw
        have y1 := free_of 1 hsw
        have hs0 : SN = 0 := by simpa using hSN
        clear hSN
        subst hs0
        clear hop hSNb
        have x0 := cell_of 0 HQ3.out
        have x3 := cell_of 3 HQ3.out
        have x4 := cell_of 4 HQ3.out
        clear hJ1 hM1
        have hE : mayS true [] false ⟨2, fro, to_, name, text, ps, rr⟩ = none := by simp [mayS]
        rw [hE]
        go_enter Tryz.func73, Tryz.ntmps73
        go_wp2
        go_ret
        exact ⟨rfl, _, HM1.out⟩
      | true =>
        have hsw : V.heap[sb]? = some (.cells #[.slice SA SN SC, .int .i64 1, .bool true] 78) := by have := HJ1.out.sw; simpa using this
        have z0 := cell_of 0 hsw
        have z1 := cell_of 1 hsw
        have z2 := cell_of 2 hsw
        have y1 := free_of 1 hsw
        have hs0 : SN = 0 := by simpa using hSN
        clear hSN
        subst hs0
        clear hop hSNb
        have x0 := cell_of 0 HQ3.out
        have x3 := cell_of 3 HQ3.out
        have x4 := cell_of 4 HQ3.out
        clear hJ1 hM1
        have hE : mayS true [] true ⟨2, fro, to_, name, text, ps, rr⟩ = none := by simp [mayS]
        rw [hE]
        go_enter Tryz.func73, Tryz.ntmps73
        go_wp2
        go_ret
        exact ⟨rfl, _, HM1.out⟩
    | cons a op =>
      obtain rfl : root = true := HInv.out rfl (by simp)
      have hsw : V.heap[sb]? = some (.cells #[.slice SA SN SC, .int .i64 1, .bool true] 78) := by have := HJ1.out.sw; simpa using this
      have z0 := cell_of 0 hsw
      have z1 := cell_of 1 hsw
      have z2 := cell_of 2 hsw
      have y1 := free_of 1 hsw
      have hsn : ((SN : Int) == 0) = false := by rw [hSN]; simp; omega
      clear hSN
      clear hop hSNb
      have x0 := cell_of 0 HQ3.out
      have x3 := cell_of 3 HQ3.out
      have x4 := cell_of 4 HQ3.out
      clear hJ1 hM1
      have hE : mayS true (a :: op) true ⟨2, fro, to_, name, text, ps, rr⟩ = some ((a :: op), true) := by simp [mayS]
      rw [hE]
      go_enter Tryz.func73, Tryz.ntmps73
      go_wp2
      go_ret
      exact ⟨rfl, _, HJ1.out, HM1.out⟩
set_option maxRecDepth 100000 in
set_option maxHeartbeats 8000000 in
theorem may_k3 (sb base : Nat) (whole : Bool) (W : World) (sv : Value) (op : List (List UInt8)) (root : Bool) (fro to_ rr : Int) (name text : List UInt8) (ps : List PairL) (A : Option Addr) (n c : Nat) (hJ : SwJ sb base whole W sv op root) (hop : op.length ≤ 1000000) :
    Calls Tryz.prog 73 #[.pointer (some ⟨sb, 0, none⟩), .agg #[.int .i64 3, .int .i64 fro, .int .i64 to_, .string ⟨name.toArray⟩, .string ⟨text.toArray⟩, .slice A n c, .int .i64 rr]] W fun e w' => MayPost sb base whole W sv (mayS whole op root ⟨3, fro, to_, name, text, ps, rr⟩) e w' := by
  have ka := (Below.refl _ W).alloc (Nat.le_refl _) (.cells #[.int .i64 3, .int .i64 fro, .int .i64 to_, .string ⟨name.toArray⟩, .string ⟨text.toArray⟩, .slice A n c, .int .i64 rr] 26)
  have hJ1 := hJ.kept ka
  have hM1 : MF sb W (W.alloc (.cells #[.int .i64 3, .int .i64 fro, .int .i64 to_, .string ⟨name.toArray⟩, .string ⟨text.toArray⟩, .slice A n c, .int .i64 rr] 26)) sv sv := MF.ofBelow ka (by have := hJ.lt; have := hJ.le; omega)
  have q3 := hp_new W (.cells #[.int .i64 3, .int .i64 fro, .int .i64 to_, .string ⟨name.toArray⟩, .string ⟨text.toArray⟩, .slice A n c, .int .i64 rr] 26)
  have HInv := Lib.hid hJ.inv
  have hsW : sb < W.heap.size := by have := hJ.lt; have := hJ.le; omega
  obtain ⟨SA, SN, SC, hsv, hSN⟩ : ∃ SA SN SC, sv = .slice SA SN SC ∧ SN = op.length := by
    obtain ⟨a, b, h⟩ := hJ.own.form
    exact ⟨a, _, b, h, rfl⟩
  subst hsv
  have hSNb : (SN : Int) ≤ 1000000 := by omega
  clear hJ ka
  obtain ⟨V, hV⟩ : ∃ V, W.alloc (.cells #[.int .i64 3, .int .i64 fro, .int .i64 to_, .string ⟨name.toArray⟩, .string ⟨text.toArray⟩, .slice A n c, .int .i64 rr] 26) = V := ⟨_, rfl⟩
  rw [hV] at hJ1 hM1 q3
  have HJ1 := Lib.hid hJ1
  have HM1 := Lib.hid hM1
  have HQ3 := Lib.hid q3
  cases whole with
  | false =>
    have hsw : V.heap[sb]? = some (.cells #[.slice SA SN SC, .int .i64 0, .bool false] 78) := by have := HJ1.out.sw; simpa using this
    have z0 := cell_of 0 hsw
    have z1 := cell_of 1 hsw
    have z2 := cell_of 2 hsw
    have y1 := free_of 1 hsw
    clear hSN
    clear hop hSNb
    have x0 := cell_of 0 HQ3.out
    have x3 := cell_of 3 HQ3.out
    have x4 := cell_of 4 HQ3.out
    clear hJ1 hM1
    have hE : mayS false op root ⟨3, fro, to_, name, text, ps, rr⟩ = some (op, root) := by simp [mayS]
    rw [hE]
    go_enter Tryz.func73, Tryz.ntmps73
    go_wp2
    go_ret
    exact ⟨rfl, _, HJ1.out, HM1.out⟩
  | true =>
    cases op with
    | nil =>
      cases root with
      | false =>
        have hsw : V.heap[sb]? = some (.cells #[.slice SA SN SC, .int .i64 0, .bool true] 78) := by have := HJ1.out.sw; simpa using this
        have z0 := cell_of 0 hsw
        have z1 := cell_of 1 hsw
        have z2 := cell_of 2 hsw
        have y1 := free_of 1 hsw
        have hs0 : SN = 0 := by simpa using hSN
        clear hSN
        subst hs0
        clear hop hSNb
        have x0 := cell_of 0 HQ3.out
        have x3 := cell_of 3 HQ3.out
        have x4 := cell_of 4 HQ3.out
        clear hJ1 hM1
        have hE : mayS true [] false ⟨3, fro, to_, name, text, ps, rr⟩ = none := by simp [mayS]
        rw [hE]
        go_enter Tryz.func73, Tryz.ntmps73
        go_wp2
        go_ret
        exact ⟨rfl, _, HM1.out⟩
      | true =>
        have hsw : V.heap[sb]? = some (.cells #[.slice SA SN SC, .int .i64 1, .bool true] 78) := by have := HJ1.out.sw; simpa using this
        have z0 := cell_of 0 hsw
        have z1 := cell_of 1 hsw
        have z2 := cell_of 2 hsw
        have y1 := free_of 1 hsw
        have hs0 : SN = 0 := by simpa using hSN
        clear hSN
        subst hs0
        clear hop hSNb
        have x0 := cell_of 0 HQ3.out
        have x3 := cell_of 3 HQ3.out
        have x4 := cell_of 4 HQ3.out
        clear hJ1 hM1
        have hE : mayS true [] true ⟨3, fro, to_, name, text, ps, rr⟩ = none := by simp [mayS]
        rw [hE]
        go_enter Tryz.func73, Tryz.ntmps73
        go_wp2
        go_ret
        exact ⟨rfl, _, HM1.out⟩
    | cons a op =>
      obtain rfl : root = true := HInv.out rfl (by simp)
      have hsw : V.heap[sb]? = some (.cells #[.slice SA SN SC, .int .i64 1, .bool true] 78) := by have := HJ1.out.sw; simpa using this
      have z0 := cell_of 0 hsw
      have z1 := cell_of 1 hsw
      have z2 := cell_of 2 hsw
      have y1 := free_of 1 hsw
      have hsn : ((SN : Int) == 0) = false := by rw [hSN]; simp; omega
      clear hSN
      clear hop hSNb
      have x0 := cell_of 0 HQ3.out
      have x3 := cell_of 3 HQ3.out
      have x4 := cell_of 4 HQ3.out
      clear hJ1 hM1
      have hE : mayS true (a :: op) true ⟨3, fro, to_, name, text, ps, rr⟩ = some ((a :: op), true) := by simp [mayS]
      rw [hE]
      go_enter Tryz.func73, Tryz.ntmps73
      go_wp2
      go_ret
      exact ⟨rfl, _, HJ1.out, HM1.out⟩
set_option maxRecDepth 100000 in
set_option maxHeartbeats 8000000 in
theorem may_k4 (sb base : Nat) (whole : Bool) (W : World) (sv : Value) (op : List (List UInt8)) (root : Bool) (fro to_ rr : Int) (name text : List UInt8) (ps : List PairL) (A : Option Addr) (n c : Nat) (hJ : SwJ sb base whole W sv op root) (hop : op.length ≤ 1000000) :
    Calls Tryz.prog 73 #[.pointer (some ⟨sb, 0, none⟩), .agg #[.int .i64 4, .int .i64 fro, .int .i64 to_, .string ⟨name.toArray⟩, .string ⟨text.toArray⟩, .slice A n c, .int .i64 rr]] W fun e w' => MayPost sb base whole W sv (mayS whole op root ⟨4, fro, to_, name, text, ps, rr⟩) e w' := by
  have ka := (Below.refl _ W).alloc (Nat.le_refl _) (.cells #[.int .i64 4, .int .i64 fro, .int .i64 to_, .string ⟨name.toArray⟩, .string ⟨text.toArray⟩, .slice A n c, .int .i64 rr] 26)
  have hJ1 := hJ.kept ka
  have hM1 : MF sb W (W.alloc (.cells #[.int .i64 4, .int .i64 fro, .int .i64 to_, .string ⟨name.toArray⟩, .string ⟨text.toArray⟩, .slice A n c, .int .i64 rr] 26)) sv sv := MF.ofBelow ka (by have := hJ.lt; have := hJ.le; omega)
  have q3 := hp_new W (.cells #[.int .i64 4, .int .i64 fro, .int .i64 to_, .string ⟨name.toArray⟩, .string ⟨text.toArray⟩, .slice A n c, .int .i64 rr] 26)
  have HInv := Lib.hid hJ.inv
  have hsW : sb < W.heap.size := by have := hJ.lt; have := hJ.le; omega
  obtain ⟨SA, SN, SC, hsv, hSN⟩ : ∃ SA SN SC, sv = .slice SA SN SC ∧ SN = op.length := by
    obtain ⟨a, b, h⟩ := hJ.own.form
    exact ⟨a, _, b, h, rfl⟩
  subst hsv
  have hSNb : (SN : Int) ≤ 1000000 := by omega
  clear hJ ka
  obtain ⟨V, hV⟩ : ∃ V, W.alloc (.cells #[.int .i64 4, .int .i64 fro, .int .i64 to_, .string ⟨name.toArray⟩, .string ⟨text.toArray⟩, .slice A n c, .int .i64 rr] 26) = V := ⟨_, rfl⟩
  rw [hV] at hJ1 hM1 q3
  have HJ1 := Lib.hid hJ1
  have HM1 := Lib.hid hM1
  have HQ3 := Lib.hid q3
  cases whole with
  | false =>
    have hsw : V.heap[sb]? = some (.cells #[.slice SA SN SC, .int .i64 0, .bool false] 78) := by have := HJ1.out.sw; simpa using this
    have z0 := cell_of 0 hsw
    have z1 := cell_of 1 hsw
    have z2 := cell_of 2 hsw
    have y1 := free_of 1 hsw
    clear hSN
    clear hop hSNb
    have x0 := cell_of 0 HQ3.out
    have x3 := cell_of 3 HQ3.out
    have x4 := cell_of 4 HQ3.out
    clear hJ1 hM1
    have hE : mayS false op root ⟨4, fro, to_, name, text, ps, rr⟩ = some (op, root) := by simp [mayS]
    rw [hE]
    go_enter Tryz.func73, Tryz.ntmps73
    go_wp2
    go_ret
    exact ⟨rfl, _, HJ1.out, HM1.out⟩
  | true =>
    cases op with
    | nil =>
      cases root with
      | false =>
        have hsw : V.heap[sb]? = some (.cells #[.slice SA SN SC, .int .i64 0, .bool true] 78) := by have := HJ1.out.sw; simpa using this
        have z0 := cell_of 0 hsw
        have z1 := cell_of 1 hsw
        have z2 := cell_of 2 hsw
        have y1 := free_of 1 hsw
        have hs0 : SN = 0 := by simpa using hSN
        clear hSN
        subst hs0
        clear hop hSNb
        have x0 := cell_of 0 HQ3.out
        have x3 := cell_of 3 HQ3.out
        have x4 := cell_of 4 HQ3.out
        clear hJ1 hM1
        have hE : mayS true [] false ⟨4, fro, to_, name, text, ps, rr⟩ = none := by simp [mayS]
        rw [hE]
        go_enter Tryz.func73, Tryz.ntmps73
        go_wp2
        go_ret
        exact ⟨rfl, _, HM1.out⟩
      | true =>
        have hsw : V.heap[sb]? = some (.cells #[.slice SA SN SC, .int .i64 1, .bool true] 78) := by have := HJ1.out.sw; simpa using this
        have z0 := cell_of 0 hsw
        have z1 := cell_of 1 hsw
        have z2 := cell_of 2 hsw
        have y1 := free_of 1 hsw
        have hs0 : SN = 0 := by simpa using hSN
        clear hSN
        subst hs0
        clear hop hSNb
        have x0 := cell_of 0 HQ3.out
        have x3 := cell_of 3 HQ3.out
        have x4 := cell_of 4 HQ3.out
        clear hJ1 hM1
        have hE : mayS true [] true ⟨4, fro, to_, name, text, ps, rr⟩ = none := by simp [mayS]
        rw [hE]
        go_enter Tryz.func73, Tryz.ntmps73
        go_wp2
        go_ret
        exact ⟨rfl, _, HM1.out⟩
    | cons a op =>
      obtain rfl : root = true := HInv.out rfl (by simp)
      have hsw : V.heap[sb]? = some (.cells #[.slice SA SN SC, .int .i64 1, .bool true] 78) := by have := HJ1.out.sw; simpa using this
      have z0 := cell_of 0 hsw
      have z1 := cell_of 1 hsw
      have z2 := cell_of 2 hsw
      have y1 := free_of 1 hsw
      have hsn : ((SN : Int) == 0) = false := by rw [hSN]; simp; omega
      clear hSN
      clear hop hSNb
      have x0 := cell_of 0 HQ3.out
      have x3 := cell_of 3 HQ3.out
      have x4 := cell_of 4 HQ3.out
      clear hJ1 hM1
      have hE : mayS true (a :: op) true ⟨4, fro, to_, name, text, ps, rr⟩ = some ((a :: op), true) := by simp [mayS]
      rw [hE]
      go_enter Tryz.func73, Tryz.ntmps73
      go_wp2
      go_ret
      exact ⟨rfl, _, HJ1.out, HM1.out⟩
set_option maxRecDepth 100000 in
set_option maxHeartbeats 8000000 in
theorem may_k1 (sb base : Nat) (whole : Bool) (W : World) (sv : Value) (op : List (List UInt8)) (root : Bool) (fro to_ rr : Int) (name text : List UInt8) (ps : List PairL) (A : Option Addr) (n c : Nat) (hJ : SwJ sb base whole W sv op root) (hop : op.length ≤ 1000000) (htx : text.length ≤ 500000) :
    Calls Tryz.prog 73 #[.pointer (some ⟨sb, 0, none⟩), .agg #[.int .i64 1, .int .i64 fro, .int .i64 to_, .string ⟨name.toArray⟩, .string ⟨text.toArray⟩, .slice A n c, .int .i64 rr]] W fun e w' => MayPost sb base whole W sv (mayS whole op root ⟨1, fro, to_, name, text, ps, rr⟩) e w' := by
  have ka := (Below.refl _ W).alloc (Nat.le_refl _) (.cells #[.int .i64 1, .int .i64 fro, .int .i64 to_, .string ⟨name.toArray⟩, .string ⟨text.toArray⟩, .slice A n c, .int .i64 rr] 26)
  have hJ1 := hJ.kept ka
  have hM1 : MF sb W (W.alloc (.cells #[.int .i64 1, .int .i64 fro, .int .i64 to_, .string ⟨name.toArray⟩, .string ⟨text.toArray⟩, .slice A n c, .int .i64 rr] 26)) sv sv := MF.ofBelow ka (by have := hJ.lt; have := hJ.le; omega)
  have q3 := hp_new W (.cells #[.int .i64 1, .int .i64 fro, .int .i64 to_, .string ⟨name.toArray⟩, .string ⟨text.toArray⟩, .slice A n c, .int .i64 rr] 26)
  have HInv := Lib.hid hJ.inv
  have hsW : sb < W.heap.size := by have := hJ.lt; have := hJ.le; omega
  obtain ⟨SA, SN, SC, hsv, hSN⟩ : ∃ SA SN SC, sv = .slice SA SN SC ∧ SN = op.length := by
    obtain ⟨a, b, h⟩ := hJ.own.form
    exact ⟨a, _, b, h, rfl⟩
  subst hsv
  have hSNb : (SN : Int) ≤ 1000000 := by omega
  clear hJ ka
  obtain ⟨V, hV⟩ : ∃ V, W.alloc (.cells #[.int .i64 1, .int .i64 fro, .int .i64 to_, .string ⟨name.toArray⟩, .string ⟨text.toArray⟩, .slice A n c, .int .i64 rr] 26) = V := ⟨_, rfl⟩
  rw [hV] at hJ1 hM1 q3
  have HJ1 := Lib.hid hJ1
  have HM1 := Lib.hid hM1
  have HQ3 := Lib.hid q3
  cases whole with
  | false =>
    have hsw : V.heap[sb]? = some (.cells #[.slice SA SN SC, .int .i64 0, .bool false] 78) := by have := HJ1.out.sw; simpa using this
    have z0 := cell_of 0 hsw
    have z1 := cell_of 1 hsw
    have z2 := cell_of 2 hsw
    have y1 := free_of 1 hsw
    clear hSN
    clear hop hSNb
    have x0 := cell_of 0 HQ3.out
    have x3 := cell_of 3 HQ3.out
    have x4 := cell_of 4 HQ3.out
    clear hJ1 hM1
    clear htx
    have hE : mayS false op root ⟨1, fro, to_, name, text, ps, rr⟩ = some (op, root) := by simp [mayS]
    rw [hE]
    go_enter Tryz.func73, Tryz.ntmps73
    go_wp2
    go_ret
    exact ⟨rfl, _, HJ1.out, HM1.out⟩
  | true =>
    cases op with
    | nil =>
      cases root with
      | false =>
        have hsw : V.heap[sb]? = some (.cells #[.slice SA SN SC, .int .i64 0, .bool true] 78) := by have := HJ1.out.sw; simpa using this
        have z0 := cell_of 0 hsw
        have z1 := cell_of 1 hsw
        have z2 := cell_of 2 hsw
        have y1 := free_of 1 hsw
        have hs0 : SN = 0 := by simpa using hSN
        clear hSN
        subst hs0
        clear hop hSNb
        have x0 := cell_of 0 HQ3.out
        have x3 := cell_of 3 HQ3.out
        have x4 := cell_of 4 HQ3.out
        clear hJ1 hM1
        have CB : Hid (Calls Tryz.prog 24 #[.string ⟨text.toArray⟩] V fun e w' => e = .returned (.bool (blankB text)) ∧ Below V.heap.size V w') := Lib.hid (blankB_c text V htx)
        cases hb : blankB text
        · have hE : mayS true [] false ⟨1, fro, to_, name, text, ps, rr⟩ = none := by simp [mayS, hb]
          rw [hE]
          rw [hb] at CB
          go_enter Tryz.func73, Tryz.ntmps73
          go_wp2_with fail
          refine CB.out.mono ?_
          rintro e w1 ⟨rfl, hb1⟩
          have HM2 := Lib.hid (HM1.out.trans (MF.ofBelow (sv := .slice SA 0 SC) hb1 (by have := HJ1.out.lt; have := HJ1.out.le; omega)))
          clear hb1
          go_wp2
          go_ret
          exact ⟨rfl, _, HM2.out⟩
        · have hE : mayS true [] false ⟨1, fro, to_, name, text, ps, rr⟩ = some ([], false) := by simp [mayS, hb]
          rw [hE]
          rw [hb] at CB
          go_enter Tryz.func73, Tryz.ntmps73
          go_wp2_with fail
          refine CB.out.mono ?_
          rintro e w1 ⟨rfl, hb1⟩
          have HM2 := Lib.hid (HM1.out.trans (MF.ofBelow (sv := .slice SA 0 SC) hb1 (by have := HJ1.out.lt; have := HJ1.out.le; omega)))
          have HJ2 := Lib.hid (HJ1.out.kept hb1)
          clear hb1
          go_wp2
          go_ret
          exact ⟨rfl, _, HJ2.out, HM2.out⟩
      | true =>
        have hsw : V.heap[sb]? = some (.cells #[.slice SA SN SC, .int .i64 1, .bool true] 78) := by have := HJ1.out.sw; simpa using this
        have z0 := cell_of 0 hsw
        have z1 := cell_of 1 hsw
        have z2 := cell_of 2 hsw
        have y1 := free_of 1 hsw
        have hs0 : SN = 0 := by simpa using hSN
        clear hSN
        subst hs0
        clear hop hSNb
        have x0 := cell_of 0 HQ3.out
        have x3 := cell_of 3 HQ3.out
        have x4 := cell_of 4 HQ3.out
        clear hJ1 hM1
        have CB : Hid (Calls Tryz.prog 24 #[.string ⟨text.toArray⟩] V fun e w' => e = .returned (.bool (blankB text)) ∧ Below V.heap.size V w') := Lib.hid (blankB_c text V htx)
        cases hb : blankB text
        · have hE : mayS true [] true ⟨1, fro, to_, name, text, ps, rr⟩ = none := by simp [mayS, hb]
          rw [hE]
          rw [hb] at CB
          go_enter Tryz.func73, Tryz.ntmps73
          go_wp2_with fail
          refine CB.out.mono ?_
          rintro e w1 ⟨rfl, hb1⟩
          have HM2 := Lib.hid (HM1.out.trans (MF.ofBelow (sv := .slice SA 0 SC) hb1 (by have := HJ1.out.lt; have := HJ1.out.le; omega)))
          clear hb1
          go_wp2
          go_ret
          exact ⟨rfl, _, HM2.out⟩
        · have hE : mayS true [] true ⟨1, fro, to_, name, text, ps, rr⟩ = some ([], true) := by simp [mayS, hb]
          rw [hE]
          rw [hb] at CB
          go_enter Tryz.func73, Tryz.ntmps73
          go_wp2_with fail
          refine CB.out.mono ?_
          rintro e w1 ⟨rfl, hb1⟩
          have HM2 := Lib.hid (HM1.out.trans (MF.ofBelow (sv := .slice SA 0 SC) hb1 (by have := HJ1.out.lt; have := HJ1.out.le; omega)))
          have HJ2 := Lib.hid (HJ1.out.kept hb1)
          clear hb1
          go_wp2
          go_ret
          exact ⟨rfl, _, HJ2.out, HM2.out⟩
    | cons a op =>
      obtain rfl : root = true := HInv.out rfl (by simp)
      have hsw : V.heap[sb]? = some (.cells #[.slice SA SN SC, .int .i64 1, .bool true] 78) := by have := HJ1.out.sw; simpa using this
      have z0 := cell_of 0 hsw
      have z1 := cell_of 1 hsw
      have z2 := cell_of 2 hsw
      have y1 := free_of 1 hsw
      have hsn : ((SN : Int) == 0) = false := by rw [hSN]; simp; omega
      clear hSN
      clear hop hSNb
      have x0 := cell_of 0 HQ3.out
      have x3 := cell_of 3 HQ3.out
      have x4 := cell_of 4 HQ3.out
      clear hJ1 hM1
      clear htx
      have hE : mayS true (a :: op) true ⟨1, fro, to_, name, text, ps, rr⟩ = some ((a :: op), true) := by simp [mayS]
      rw [hE]
      go_enter Tryz.func73, Tryz.ntmps73
      go_wp2
      go_ret
      exact ⟨rfl, _, HJ1.out, HM1.out⟩
set_option maxRecDepth 100000 in
set_option maxHeartbeats 8000000 in
theorem may_k8 (sb base : Nat) (whole : Bool) (W : World) (sv : Value) (op : List (List UInt8)) (root : Bool) (fro to_ rr : Int) (name text : List UInt8) (ps : List PairL) (A : Option Addr) (n c : Nat) (hJ : SwJ sb base whole W sv op root) (hop : op.length ≤ 1000000) :
    Calls Tryz.prog 73 #[.pointer (some ⟨sb, 0, none⟩), .agg #[.int .i64 8, .int .i64 fro, .int .i64 to_, .string ⟨name.toArray⟩, .string ⟨text.toArray⟩, .slice A n c, .int .i64 rr]] W fun e w' => MayPost sb base whole W sv (mayS whole op root ⟨8, fro, to_, name, text, ps, rr⟩) e w' := by
  have ka := (Below.refl _ W).alloc (Nat.le_refl _) (.cells #[.int .i64 8, .int .i64 fro, .int .i64 to_, .string ⟨name.toArray⟩, .string ⟨text.toArray⟩, .slice A n c, .int .i64 rr] 26)
  have hJ1 := hJ.kept ka
  have hM1 : MF sb W (W.alloc (.cells #[.int .i64 8, .int .i64 fro, .int .i64 to_, .string ⟨name.toArray⟩, .string ⟨text.toArray⟩, .slice A n c, .int .i64 rr] 26)) sv sv := MF.ofBelow ka (by have := hJ.lt; have := hJ.le; omega)
  have q3 := hp_new W (.cells #[.int .i64 8, .int .i64 fro, .int .i64 to_, .string ⟨name.toArray⟩, .string ⟨text.toArray⟩, .slice A n c, .int .i64 rr] 26)
  have HInv := Lib.hid hJ.inv
  have hsW : sb < W.heap.size := by have := hJ.lt; have := hJ.le; omega
  obtain ⟨SA, SN, SC, hsv, hSN⟩ : ∃ SA SN SC, sv = .slice SA SN SC ∧ SN = op.length := by
    obtain ⟨a, b, h⟩ := hJ.own.form
    exact ⟨a, _, b, h, rfl⟩
  subst hsv
  have hSNb : (SN : Int) ≤ 1000000 := by omega
  clear hJ ka
  obtain ⟨V, hV⟩ : ∃ V, W.alloc (.cells #[.int .i64 8, .int .i64 fro, .int .i64 to_, .string ⟨name.toArray⟩, .string ⟨text.toArray⟩, .slice A n c, .int .i64 rr] 26) = V := ⟨_, rfl⟩
  rw [hV] at hJ1 hM1 q3
  have HJ1 := Lib.hid hJ1
  have HM1 := Lib.hid hM1
  have HQ3 := Lib.hid q3
  cases whole with
  | false =>
    have hsw : V.heap[sb]? = some (.cells #[.slice SA SN SC, .int .i64 0, .bool false] 78) := by have := HJ1.out.sw; simpa using this
    have z0 := cell_of 0 hsw
    have z1 := cell_of 1 hsw
    have z2 := cell_of 2 hsw
    have y1 := free_of 1 hsw
    clear hSN
    clear hop hSNb
    have x0 := cell_of 0 HQ3.out
    have x3 := cell_of 3 HQ3.out
    have x4 := cell_of 4 HQ3.out
    clear hJ1 hM1
    have hE : mayS false op root ⟨8, fro, to_, name, text, ps, rr⟩ = some (op, true) := by simp [mayS]
    rw [hE]
    have HJ2 : Hid (SwJ sb base false V (.slice SA SN SC) op true) := Lib.hid ⟨by simpa using hsw, HJ1.out.own, HJ1.out.lt, HJ1.out.le, fun h => by cases h⟩
    go_enter Tryz.func73, Tryz.ntmps73
    go_wp2
    go_ret
    exact ⟨rfl, _, HJ2.out, HM1.out⟩
  | true =>
    cases op with
    | nil =>
      cases root with
      | false =>
        have hsw : V.heap[sb]? = some (.cells #[.slice SA SN SC, .int .i64 0, .bool true] 78) := by have := HJ1.out.sw; simpa using this
        have z0 := cell_of 0 hsw
        have z1 := cell_of 1 hsw
        have z2 := cell_of 2 hsw
        have y1 := free_of 1 hsw
        have hs0 : SN = 0 := by simpa using hSN
        clear hSN
        subst hs0
        clear hop hSNb
        have x0 := cell_of 0 HQ3.out
        have x3 := cell_of 3 HQ3.out
        have x4 := cell_of 4 HQ3.out
        clear hJ1 hM1
        have hE : mayS true [] false ⟨8, fro, to_, name, text, ps, rr⟩ = some ([], true) := by simp [mayS]
        rw [hE]
        have HM2 : Hid (MF sb W (V.setCell ⟨sb, 1, none⟩ (.int .i64 1)) (.slice SA 0 SC) (.slice SA 0 SC)) := Lib.hid (HM1.out.trans (MF.cell rfl))
        have HJ2 : Hid (SwJ sb base true (V.setCell ⟨sb, 1, none⟩ (.int .i64 1)) (.slice SA 0 SC) [] true) := Lib.hid ⟨hp_set hsw, ownsRow_keep HJ1.out.own fun g hg _ => hp_other (by have := HJ1.out.lt; omega), HJ1.out.lt, by simpa using HJ1.out.le, fun _ h => absurd rfl h⟩
        go_enter Tryz.func73, Tryz.ntmps73
        go_wp2
        go_ret
        exact ⟨rfl, _, HJ2.out, HM2.out⟩
      | true =>
        have hsw : V.heap[sb]? = some (.cells #[.slice SA SN SC, .int .i64 1, .bool true] 78) := by have := HJ1.out.sw; simpa using this
        have z0 := cell_of 0 hsw
        have z1 := cell_of 1 hsw
        have z2 := cell_of 2 hsw
        have y1 := free_of 1 hsw
        have hs0 : SN = 0 := by simpa using hSN
        clear hSN
        subst hs0
        clear hop hSNb
        have x0 := cell_of 0 HQ3.out
        have x3 := cell_of 3 HQ3.out
        have x4 := cell_of 4 HQ3.out
        clear hJ1 hM1
        have hE : mayS true [] true ⟨8, fro, to_, name, text, ps, rr⟩ = none := by simp [mayS]
        rw [hE]
        have HM2 : Hid (MF sb W (V.setCell ⟨sb, 1, none⟩ (.int .i64 2)) (.slice SA 0 SC) (.slice SA 0 SC)) := Lib.hid (HM1.out.trans (MF.cell rfl))
        go_enter Tryz.func73, Tryz.ntmps73
        go_wp2
        go_ret
        exact ⟨rfl, _, HM2.out⟩
    | cons a op =>
      obtain rfl : root = true := HInv.out rfl (by simp)
      have hsw : V.heap[sb]? = some (.cells #[.slice SA SN SC, .int .i64 1, .bool true] 78) := by have := HJ1.out.sw; simpa using this
      have z0 := cell_of 0 hsw
      have z1 := cell_of 1 hsw
      have z2 := cell_of 2 hsw
      have y1 := free_of 1 hsw
      have hsn : ((SN : Int) == 0) = false := by rw [hSN]; simp; omega
      clear hSN
      clear hop hSNb
      have x0 := cell_of 0 HQ3.out
      have x3 := cell_of 3 HQ3.out
      have x4 := cell_of 4 HQ3.out
      clear hJ1 hM1
      have hE : mayS true (a :: op) true ⟨8, fro, to_, name, text, ps, rr⟩ = some ((a :: op), true) := by simp [mayS]
      rw [hE]
      go_enter Tryz.func73, Tryz.ntmps73
      go_wp2
      go_ret
      exact ⟨rfl, _, HJ1.out, HM1.out⟩
end Go.Proofs.YtmclngahdklfkaaGreatDoor
/- sweep.may at begins and ends. -/
namespace Go.Proofs.YtmclngahdklfkaaGreatDoor
open Go.ChangeShapes Go.WideShapes Go.ChangeAt Go.RowKit
set_option linter.unusedVariables false
set_option maxRecDepth 100000 in
set_option maxHeartbeats 8000000 in
theorem may_k7 (sb base : Nat) (whole : Bool) (W : World) (sv : Value) (op : List (List UInt8)) (root : Bool) (fro to_ rr : Int) (name text : List UInt8) (ps : List PairL) (A : Option Addr) (n c : Nat) (hJ : SwJ sb base whole W sv op root) (hop : op.length ≤ 1000000) :
    Calls Tryz.prog 73 #[.pointer (some ⟨sb, 0, none⟩), .agg #[.int .i64 7, .int .i64 fro, .int .i64 to_, .string ⟨name.toArray⟩, .string ⟨text.toArray⟩, .slice A n c, .int .i64 rr]] W fun e w' => MayPost sb base whole W sv (mayS whole op root ⟨7, fro, to_, name, text, ps, rr⟩) e w' := by
  have ka := (Below.refl _ W).alloc (Nat.le_refl _) (.cells #[.int .i64 7, .int .i64 fro, .int .i64 to_, .string ⟨name.toArray⟩, .string ⟨text.toArray⟩, .slice A n c, .int .i64 rr] 26)
  have hJ1 := hJ.kept ka
  have hM1 : MF sb W (W.alloc (.cells #[.int .i64 7, .int .i64 fro, .int .i64 to_, .string ⟨name.toArray⟩, .string ⟨text.toArray⟩, .slice A n c, .int .i64 rr] 26)) sv sv := MF.ofBelow ka (by have := hJ.lt; have := hJ.le; omega)
  have q3 := hp_new W (.cells #[.int .i64 7, .int .i64 fro, .int .i64 to_, .string ⟨name.toArray⟩, .string ⟨text.toArray⟩, .slice A n c, .int .i64 rr] 26)
  have HInv := Lib.hid hJ.inv
  have hsW : sb < W.heap.size := by have := hJ.lt; have := hJ.le; omega
  obtain ⟨SA, SN, SC, hsv, hSN⟩ : ∃ SA SN SC, sv = .slice SA SN SC ∧ SN = op.length := by
    obtain ⟨a, b, h⟩ := hJ.own.form
    exact ⟨a, _, b, h, rfl⟩
  subst hsv
  have hSNb : (SN : Int) ≤ 1000000 := by omega
  clear hJ ka
  obtain ⟨V, hV⟩ : ∃ V, W.alloc (.cells #[.int .i64 7, .int .i64 fro, .int .i64 to_, .string ⟨name.toArray⟩, .string ⟨text.toArray⟩, .slice A n c, .int .i64 rr] 26) = V := ⟨_, rfl⟩
  rw [hV] at hJ1 hM1 q3
  have HJ1 := Lib.hid hJ1
  have HM1 := Lib.hid hM1
  have HQ3 := Lib.hid q3
  cases whole with
  | false =>
    have hsw : V.heap[sb]? = some (.cells #[.slice SA SN SC, .int .i64 0, .bool false] 78) := by have := HJ1.out.sw; simpa using this
    have z0 := cell_of 0 hsw
    have z1 := cell_of 1 hsw
    have z2 := cell_of 2 hsw
    have y1 := free_of 1 hsw
    clear hSN
    clear hSNb
    have HOP := Lib.hid hop
    clear hop
    have x0 := cell_of 0 HQ3.out
    have x3 := cell_of 3 HQ3.out
    have x4 := cell_of 4 HQ3.out
    clear hJ1 hM1
    have hE : mayS false op root ⟨7, fro, to_, name, text, ps, rr⟩ = some (op ++ [name], true) := by simp [mayS]
    rw [hE]
    have hVd : Below V.heap.size V V.drew := below_drewN' (n := 1) (Below.refl _ _)
    have J1d := HJ1.out.kept hVd
    have CP := Lib.hid (push_c sb base (.slice SA SN SC) op name 0 false V.drew (by exact hsw) J1d.own J1d.lt J1d.le HOP.out)
    have HMd := Lib.hid (HM1.out.trans (MF.ofBelow (sv := .slice SA SN SC) hVd (by have := HJ1.out.lt; have := HJ1.out.le; omega)))
    have HLE := Lib.hid J1d.le
    have HLT := Lib.hid HJ1.out.lt
    have xd3 : V.drew.cell? ⟨W.heap.size, 3, none⟩ = some (.string ⟨name.toArray⟩) := x3
    clear hVd J1d
    go_enter Tryz.func73, Tryz.ntmps73
    go_wp2_with fail
    go_region_with (go_at_call 104; refine CP.out.mono ?_; rintro e w1 ⟨rfl, sv1, hq1, ho1, hM1⟩)
    all_goals
      have HM2 := Lib.hid (HMd.out.trans hM1)
      have HJ2 : Hid (SwJ sb base false w1 sv1 (op ++ [name]) true) := Lib.hid ⟨by simpa using hq1, ho1, HLT.out, by have := hM1.below.size; have := HLE.out; omega, fun _ _ => rfl⟩
      have u1 := cell_of 1 hq1
      clear hM1 ho1
      go_wp2
      go_ret
      exact ⟨rfl, _, HJ2.out, HM2.out⟩
  | true =>
    cases op with
    | nil =>
      cases root with
      | false =>
        have hsw : V.heap[sb]? = some (.cells #[.slice SA SN SC, .int .i64 0, .bool true] 78) := by have := HJ1.out.sw; simpa using this
        have z0 := cell_of 0 hsw
        have z1 := cell_of 1 hsw
        have z2 := cell_of 2 hsw
        have y1 := free_of 1 hsw
        have hs0 : SN = 0 := by simpa using hSN
        clear hSN
        subst hs0
        clear hSNb
        have HOP := Lib.hid hop
        clear hop
        have x0 := cell_of 0 HQ3.out
        have x3 := cell_of 3 HQ3.out
        have x4 := cell_of 4 HQ3.out
        clear hJ1 hM1
        have hE : mayS true [] false ⟨7, fro, to_, name, text, ps, rr⟩ = some ([] ++ [name], true) := by simp [mayS]
        rw [hE]
        have hVd : Below V.heap.size V V.drew := below_drewN' (n := 1) (Below.refl _ _)
        have J1d := HJ1.out.kept hVd
        have CP := Lib.hid (push_c sb base (.slice SA 0 SC) [] name 0 true V.drew (by exact hsw) J1d.own J1d.lt J1d.le HOP.out)
        have HMd := Lib.hid (HM1.out.trans (MF.ofBelow (sv := .slice SA 0 SC) hVd (by have := HJ1.out.lt; have := HJ1.out.le; omega)))
        have HLE := Lib.hid J1d.le
        have HLT := Lib.hid HJ1.out.lt
        have xd3 : V.drew.cell? ⟨W.heap.size, 3, none⟩ = some (.string ⟨name.toArray⟩) := x3
        clear hVd J1d
        go_enter Tryz.func73, Tryz.ntmps73
        go_wp2_with fail
        go_region_with (go_at_call 104; refine CP.out.mono ?_; rintro e w1 ⟨rfl, sv1, hq1, ho1, hM1⟩)
        all_goals
          have HM2 : Hid (MF sb W (w1.setCell ⟨sb, 1, none⟩ (.int .i64 1)) (.slice SA 0 SC) sv1) := Lib.hid ((HMd.out.trans hM1).trans (MF.cell rfl))
          have HJ2 : Hid (SwJ sb base true (w1.setCell ⟨sb, 1, none⟩ (.int .i64 1)) sv1 ([] ++ [name]) true) := Lib.hid ⟨hp_set hq1, ownsRow_keep ho1 fun g hg _ => hp_other (by have := HLT.out; omega), HLT.out, by have := hM1.below.size; have := HLE.out; simp; omega, fun _ _ => rfl⟩
          have u1 := cell_of 1 hq1
          have v1 := free_of 1 hq1
          clear hM1 ho1
          go_wp2
          go_ret
          exact ⟨rfl, _, HJ2.out, HM2.out⟩
      | true =>
        have hsw : V.heap[sb]? = some (.cells #[.slice SA SN SC, .int .i64 1, .bool true] 78) := by have := HJ1.out.sw; simpa using this
        have z0 := cell_of 0 hsw
        have z1 := cell_of 1 hsw
        have z2 := cell_of 2 hsw
        have y1 := free_of 1 hsw
        have hs0 : SN = 0 := by simpa using hSN
        clear hSN
        subst hs0
        clear hSNb
        have HOP := Lib.hid hop
        clear hop
        have x0 := cell_of 0 HQ3.out
        have x3 := cell_of 3 HQ3.out
        have x4 := cell_of 4 HQ3.out
        clear hJ1 hM1
        have hE : mayS true [] true ⟨7, fro, to_, name, text, ps, rr⟩ = none := by simp [mayS]
        rw [hE]
        have hVd : Below V.heap.size V V.drew := below_drewN' (n := 1) (Below.refl _ _)
        have J1d := HJ1.out.kept hVd
        have CP := Lib.hid (push_c sb base (.slice SA 0 SC) [] name 1 true V.drew (by exact hsw) J1d.own J1d.lt J1d.le HOP.out)
        have HMd := Lib.hid (HM1.out.trans (MF.ofBelow (sv := .slice SA 0 SC) hVd (by have := HJ1.out.lt; have := HJ1.out.le; omega)))
        have HLE := Lib.hid J1d.le
        have HLT := Lib.hid HJ1.out.lt
        have xd3 : V.drew.cell? ⟨W.heap.size, 3, none⟩ = some (.string ⟨name.toArray⟩) := x3
        clear hVd J1d
        go_enter Tryz.func73, Tryz.ntmps73
        go_wp2_with fail
        go_region_with (go_at_call 104; refine CP.out.mono ?_; rintro e w1 ⟨rfl, sv1, hq1, ho1, hM1⟩)
        all_goals
          have HM2 : Hid (MF sb W (w1.setCell ⟨sb, 1, none⟩ (.int .i64 2)) (.slice SA 0 SC) sv1) := Lib.hid ((HMd.out.trans hM1).trans (MF.cell rfl))
          have u1 := cell_of 1 hq1
          have v1 := free_of 1 hq1
          go_wp2
          go_ret
          exact ⟨rfl, _, HM2.out⟩
    | cons a op =>
      obtain rfl : root = true := HInv.out rfl (by simp)
      have hsw : V.heap[sb]? = some (.cells #[.slice SA SN SC, .int .i64 1, .bool true] 78) := by have := HJ1.out.sw; simpa using this
      have z0 := cell_of 0 hsw
      have z1 := cell_of 1 hsw
      have z2 := cell_of 2 hsw
      have y1 := free_of 1 hsw
      have hsn : ((SN : Int) == 0) = false := by rw [hSN]; simp; omega
      clear hSN
      clear hSNb
      have HOP := Lib.hid hop
      clear hop
      have x0 := cell_of 0 HQ3.out
      have x3 := cell_of 3 HQ3.out
      have x4 := cell_of 4 HQ3.out
      clear hJ1 hM1
      have hE : mayS true (a :: op) true ⟨7, fro, to_, name, text, ps, rr⟩ = some ((a :: op) ++ [name], true) := by simp [mayS]
      rw [hE]
      have hVd : Below V.heap.size V V.drew := below_drewN' (n := 1) (Below.refl _ _)
      have J1d := HJ1.out.kept hVd
      have CP := Lib.hid (push_c sb base (.slice SA SN SC) (a :: op) name 1 true V.drew (by exact hsw) J1d.own J1d.lt J1d.le HOP.out)
      have HMd := Lib.hid (HM1.out.trans (MF.ofBelow (sv := .slice SA SN SC) hVd (by have := HJ1.out.lt; have := HJ1.out.le; omega)))
      have HLE := Lib.hid J1d.le
      have HLT := Lib.hid HJ1.out.lt
      have xd3 : V.drew.cell? ⟨W.heap.size, 3, none⟩ = some (.string ⟨name.toArray⟩) := x3
      clear hVd J1d
      go_enter Tryz.func73, Tryz.ntmps73
      go_wp2_with fail
      go_region_with (go_at_call 104; refine CP.out.mono ?_; rintro e w1 ⟨rfl, sv1, hq1, ho1, hM1⟩)
      all_goals
        have HM2 := Lib.hid (HMd.out.trans hM1)
        have HJ2 : Hid (SwJ sb base true w1 sv1 ((a :: op) ++ [name]) true) := Lib.hid ⟨by simpa using hq1, ho1, HLT.out, by have := hM1.below.size; have := HLE.out; omega, fun _ _ => rfl⟩
        have u1 := cell_of 1 hq1
        clear hM1 ho1
        go_wp2
        go_ret
        exact ⟨rfl, _, HJ2.out, HM2.out⟩
end Go.Proofs.YtmclngahdklfkaaGreatDoor
/- sweep.may at begins and ends. -/
namespace Go.Proofs.YtmclngahdklfkaaGreatDoor
open Go.ChangeShapes Go.WideShapes Go.ChangeAt Go.RowKit
set_option linter.unusedVariables false
set_option maxRecDepth 100000 in
set_option maxHeartbeats 8000000 in
theorem may_k9 (sb base : Nat) (whole : Bool) (W : World) (sv : Value) (op : List (List UInt8)) (root : Bool) (fro to_ rr : Int) (name text : List UInt8) (ps : List PairL) (A : Option Addr) (n c : Nat) (hJ : SwJ sb base whole W sv op root) (hop : op.length ≤ 1000000) :
    Calls Tryz.prog 73 #[.pointer (some ⟨sb, 0, none⟩), .agg #[.int .i64 9, .int .i64 fro, .int .i64 to_, .string ⟨name.toArray⟩, .string ⟨text.toArray⟩, .slice A n c, .int .i64 rr]] W fun e w' => MayPost sb base whole W sv (mayS whole op root ⟨9, fro, to_, name, text, ps, rr⟩) e w' := by
  have ka := (Below.refl _ W).alloc (Nat.le_refl _) (.cells #[.int .i64 9, .int .i64 fro, .int .i64 to_, .string ⟨name.toArray⟩, .string ⟨text.toArray⟩, .slice A n c, .int .i64 rr] 26)
  have hJ1 := hJ.kept ka
  have hM1 : MF sb W (W.alloc (.cells #[.int .i64 9, .int .i64 fro, .int .i64 to_, .string ⟨name.toArray⟩, .string ⟨text.toArray⟩, .slice A n c, .int .i64 rr] 26)) sv sv := MF.ofBelow ka (by have := hJ.lt; have := hJ.le; omega)
  have q3 := hp_new W (.cells #[.int .i64 9, .int .i64 fro, .int .i64 to_, .string ⟨name.toArray⟩, .string ⟨text.toArray⟩, .slice A n c, .int .i64 rr] 26)
  have HInv := Lib.hid hJ.inv
  have hsW : sb < W.heap.size := by have := hJ.lt; have := hJ.le; omega
  obtain ⟨SA, SN, SC, hsv, hSN⟩ : ∃ SA SN SC, sv = .slice SA SN SC ∧ SN = op.length := by
    obtain ⟨a, b, h⟩ := hJ.own.form
    exact ⟨a, _, b, h, rfl⟩
  subst hsv
  have hSNb : (SN : Int) ≤ 1000000 := by omega
  clear hJ ka
  obtain ⟨V, hV⟩ : ∃ V, W.alloc (.cells #[.int .i64 9, .int .i64 fro, .int .i64 to_, .string ⟨name.toArray⟩, .string ⟨text.toArray⟩, .slice A n c, .int .i64 rr] 26) = V := ⟨_, rfl⟩
  rw [hV] at hJ1 hM1 q3
  have HJ1 := Lib.hid hJ1
  have HM1 := Lib.hid hM1
  have HQ3 := Lib.hid q3
  cases whole with
  | false =>
    have hsw : V.heap[sb]? = some (.cells #[.slice SA SN SC, .int .i64 0, .bool false] 78) := by have := HJ1.out.sw; simpa using this
    have z0 := cell_of 0 hsw
    have z1 := cell_of 1 hsw
    have z2 := cell_of 2 hsw
    have y1 := free_of 1 hsw
    clear hSN
    clear hSNb
    have HOP := Lib.hid hop
    clear hop
    have x0 := cell_of 0 HQ3.out
    have x3 := cell_of 3 HQ3.out
    have x4 := cell_of 4 HQ3.out
    clear hJ1 hM1
    by_cases hl : op.getLast? = some name
    · obtain ⟨op2, hop2⟩ : ∃ op2, op = op2 ++ [name] := by
        rcases List.eq_nil_or_concat op with h | ⟨o2, s2, h⟩
        · rw [h] at hl; simp at hl
        · rw [h] at hl
          simp at hl
          exact ⟨o2, by rw [h, hl]; simp⟩
      have hE : mayS false op root ⟨9, fro, to_, name, text, ps, rr⟩ = some (op2, root) := by rw [hop2]; simp [mayS]
      rw [hE]
      have hol : op2.length ≤ 1000000 := by
        have := HOP.out
        rw [hop2, List.length_append] at this
        omega
      have hVd : Below V.heap.size V V.drew := below_drewN' (n := 1) (Below.refl _ _)
      have J1d := HJ1.out.kept hVd
      have CP := Lib.hid (pop_yes sb base (.slice SA SN SC) op2 name 0 false V.drew (by exact hsw) (hop2 ▸ J1d.own) J1d.lt hol)
      have HMd := Lib.hid (HM1.out.trans (MF.ofBelow (sv := .slice SA SN SC) hVd (by have := HJ1.out.lt; have := HJ1.out.le; omega)))
      have HLE := Lib.hid J1d.le
      have HLT := Lib.hid HJ1.out.lt
      clear hol hop2 hl
      have xd3 : V.drew.cell? ⟨W.heap.size, 3, none⟩ = some (.string ⟨name.toArray⟩) := x3
      clear hVd J1d
      go_enter Tryz.func73, Tryz.ntmps73
      go_wp2_with fail
      go_region_with (go_at_call 105; refine CP.out.mono ?_; rintro e w1 ⟨rfl, sv1, hq1, ho1, hM1⟩)
      all_goals
        have HM2 := Lib.hid (HMd.out.trans hM1)
        have HJ2 : Hid (SwJ sb base false w1 sv1 op2 root) := Lib.hid ⟨by simpa using hq1, ho1, HLT.out, by have := hM1.below.size; have := HLE.out; omega, fun h => by cases h⟩
        clear hM1 ho1
        go_wp2
        go_ret
        exact ⟨rfl, _, HJ2.out, HM2.out⟩
    · have hE : mayS false op root ⟨9, fro, to_, name, text, ps, rr⟩ = none := by unfold mayS; rw [if_neg (by show ¬ (9 : Int) = 7; decide), if_neg (by show ¬ (9 : Int) = 8; decide), if_pos rfl, if_neg hl]
      rw [hE]
      have hVd : Below V.heap.size V V.drew := below_drewN' (n := 1) (Below.refl _ _)
      have J1d := HJ1.out.kept hVd
      have CP := Lib.hid (pop_no sb base (.slice SA SN SC) op name 0 false V.drew (by exact hsw) J1d.own HOP.out (hl))
      have HMd := Lib.hid (HM1.out.trans (MF.ofBelow (sv := .slice SA SN SC) hVd (by have := HJ1.out.lt; have := HJ1.out.le; omega)))
      have HLE := Lib.hid J1d.le
      have HLT := Lib.hid HJ1.out.lt
      clear hl
      have xd3 : V.drew.cell? ⟨W.heap.size, 3, none⟩ = some (.string ⟨name.toArray⟩) := x3
      clear hVd J1d
      go_enter Tryz.func73, Tryz.ntmps73
      go_wp2_with fail
      go_region_with (go_at_call 105; refine CP.out.mono ?_; rintro e wq ⟨rfl, hwq⟩; subst hwq)
      all_goals
        go_wp2
        go_ret
        exact ⟨rfl, _, HMd.out⟩
  | true =>
    cases op with
    | nil =>
      cases root with
      | false =>
        have hsw : V.heap[sb]? = some (.cells #[.slice SA SN SC, .int .i64 0, .bool true] 78) := by have := HJ1.out.sw; simpa using this
        have z0 := cell_of 0 hsw
        have z1 := cell_of 1 hsw
        have z2 := cell_of 2 hsw
        have y1 := free_of 1 hsw
        have hs0 : SN = 0 := by simpa using hSN
        clear hSN
        subst hs0
        clear hSNb
        have HOP := Lib.hid hop
        clear hop
        have x0 := cell_of 0 HQ3.out
        have x3 := cell_of 3 HQ3.out
        have x4 := cell_of 4 HQ3.out
        clear hJ1 hM1
        have hE : mayS true [] false ⟨9, fro, to_, name, text, ps, rr⟩ = none := by simp [mayS]
        rw [hE]
        have hVd : Below V.heap.size V V.drew := below_drewN' (n := 1) (Below.refl _ _)
        have J1d := HJ1.out.kept hVd
        have CP := Lib.hid (pop_no sb base (.slice SA 0 SC) [] name 0 true V.drew (by exact hsw) J1d.own HOP.out (by simp))
        have HMd := Lib.hid (HM1.out.trans (MF.ofBelow (sv := .slice SA 0 SC) hVd (by have := HJ1.out.lt; have := HJ1.out.le; omega)))
        have HLE := Lib.hid J1d.le
        have HLT := Lib.hid HJ1.out.lt
        have xd3 : V.drew.cell? ⟨W.heap.size, 3, none⟩ = some (.string ⟨name.toArray⟩) := x3
        clear hVd J1d
        go_enter Tryz.func73, Tryz.ntmps73
        go_wp2_with fail
        go_region_with (go_at_call 105; refine CP.out.mono ?_; rintro e wq ⟨rfl, hwq⟩; subst hwq)
        all_goals
          go_wp2
          go_ret
          exact ⟨rfl, _, HMd.out⟩
      | true =>
        have hsw : V.heap[sb]? = some (.cells #[.slice SA SN SC, .int .i64 1, .bool true] 78) := by have := HJ1.out.sw; simpa using this
        have z0 := cell_of 0 hsw
        have z1 := cell_of 1 hsw
        have z2 := cell_of 2 hsw
        have y1 := free_of 1 hsw
        have hs0 : SN = 0 := by simpa using hSN
        clear hSN
        subst hs0
        clear hSNb
        have HOP := Lib.hid hop
        clear hop
        have x0 := cell_of 0 HQ3.out
        have x3 := cell_of 3 HQ3.out
        have x4 := cell_of 4 HQ3.out
        clear hJ1 hM1
        have hE : mayS true [] true ⟨9, fro, to_, name, text, ps, rr⟩ = none := by simp [mayS]
        rw [hE]
        have hVd : Below V.heap.size V V.drew := below_drewN' (n := 1) (Below.refl _ _)
        have J1d := HJ1.out.kept hVd
        have CP := Lib.hid (pop_no sb base (.slice SA 0 SC) [] name 1 true V.drew (by exact hsw) J1d.own HOP.out (by simp))
        have HMd := Lib.hid (HM1.out.trans (MF.ofBelow (sv := .slice SA 0 SC) hVd (by have := HJ1.out.lt; have := HJ1.out.le; omega)))
        have HLE := Lib.hid J1d.le
        have HLT := Lib.hid HJ1.out.lt
        have xd3 : V.drew.cell? ⟨W.heap.size, 3, none⟩ = some (.string ⟨name.toArray⟩) := x3
        clear hVd J1d
        go_enter Tryz.func73, Tryz.ntmps73
        go_wp2_with fail
        go_region_with (go_at_call 105; refine CP.out.mono ?_; rintro e wq ⟨rfl, hwq⟩; subst hwq)
        all_goals
          go_wp2
          go_ret
          exact ⟨rfl, _, HMd.out⟩
    | cons a op =>
      obtain rfl : root = true := HInv.out rfl (by simp)
      have hsw : V.heap[sb]? = some (.cells #[.slice SA SN SC, .int .i64 1, .bool true] 78) := by have := HJ1.out.sw; simpa using this
      have z0 := cell_of 0 hsw
      have z1 := cell_of 1 hsw
      have z2 := cell_of 2 hsw
      have y1 := free_of 1 hsw
      have hsn : ((SN : Int) == 0) = false := by rw [hSN]; simp; omega
      clear hSN
      clear hSNb
      have HOP := Lib.hid hop
      clear hop
      have x0 := cell_of 0 HQ3.out
      have x3 := cell_of 3 HQ3.out
      have x4 := cell_of 4 HQ3.out
      clear hJ1 hM1
      by_cases hl : (a :: op).getLast? = some name
      · obtain ⟨op2, hop2⟩ : ∃ op2, (a :: op) = op2 ++ [name] := by
          rcases List.eq_nil_or_concat (a :: op) with h | ⟨o2, s2, h⟩
          · rw [h] at hl; simp at hl
          · rw [h] at hl
            simp at hl
            exact ⟨o2, by rw [h, hl]; simp⟩
        have hE : mayS true (a :: op) true ⟨9, fro, to_, name, text, ps, rr⟩ = some (op2, true) := by rw [hop2]; simp [mayS]
        rw [hE]
        have hol : op2.length ≤ 1000000 := by
          have := HOP.out
          rw [hop2, List.length_append] at this
          omega
        have hVd : Below V.heap.size V V.drew := below_drewN' (n := 1) (Below.refl _ _)
        have J1d := HJ1.out.kept hVd
        have CP := Lib.hid (pop_yes sb base (.slice SA SN SC) op2 name 1 true V.drew (by exact hsw) (hop2 ▸ J1d.own) J1d.lt hol)
        have HMd := Lib.hid (HM1.out.trans (MF.ofBelow (sv := .slice SA SN SC) hVd (by have := HJ1.out.lt; have := HJ1.out.le; omega)))
        have HLE := Lib.hid J1d.le
        have HLT := Lib.hid HJ1.out.lt
        clear hol hop2 hl
        have xd3 : V.drew.cell? ⟨W.heap.size, 3, none⟩ = some (.string ⟨name.toArray⟩) := x3
        clear hVd J1d
        go_enter Tryz.func73, Tryz.ntmps73
        go_wp2_with fail
        go_region_with (go_at_call 105; refine CP.out.mono ?_; rintro e w1 ⟨rfl, sv1, hq1, ho1, hM1⟩)
        all_goals
          have HM2 := Lib.hid (HMd.out.trans hM1)
          have HJ2 : Hid (SwJ sb base true w1 sv1 op2 true) := Lib.hid ⟨by simpa using hq1, ho1, HLT.out, by have := hM1.below.size; have := HLE.out; omega, fun _ _ => rfl⟩
          clear hM1 ho1
          go_wp2
          go_ret
          exact ⟨rfl, _, HJ2.out, HM2.out⟩
      · have hE : mayS true (a :: op) true ⟨9, fro, to_, name, text, ps, rr⟩ = none := by unfold mayS; rw [if_neg (by show ¬ (9 : Int) = 7; decide), if_neg (by show ¬ (9 : Int) = 8; decide), if_pos rfl, if_neg hl]
        rw [hE]
        have hVd : Below V.heap.size V V.drew := below_drewN' (n := 1) (Below.refl _ _)
        have J1d := HJ1.out.kept hVd
        have CP := Lib.hid (pop_no sb base (.slice SA SN SC) (a :: op) name 1 true V.drew (by exact hsw) J1d.own HOP.out (hl))
        have HMd := Lib.hid (HM1.out.trans (MF.ofBelow (sv := .slice SA SN SC) hVd (by have := HJ1.out.lt; have := HJ1.out.le; omega)))
        have HLE := Lib.hid J1d.le
        have HLT := Lib.hid HJ1.out.lt
        clear hl
        have xd3 : V.drew.cell? ⟨W.heap.size, 3, none⟩ = some (.string ⟨name.toArray⟩) := x3
        clear hVd J1d
        go_enter Tryz.func73, Tryz.ntmps73
        go_wp2_with fail
        go_region_with (go_at_call 105; refine CP.out.mono ?_; rintro e wq ⟨rfl, hwq⟩; subst hwq)
        all_goals
          go_wp2
          go_ret
          exact ⟨rfl, _, HMd.out⟩
end Go.Proofs.YtmclngahdklfkaaGreatDoor
/- sweep.over: what it keeps. -/
namespace Go.Proofs.YtmclngahdklfkaaGreatDoor
open Go.ChangeShapes Go.WideShapes Go.ChangeAt Go.RowKit
set_option linter.unusedVariables false
theorem text_le (l : List UInt8) (t : Nat) (h : (nextOut l t).1.kind = 1) : (nextOut l t).1.text.length ≤ l.length := by
  unfold nextOut at h ⊢
  split
  · rename_i h0
    rw [if_pos h0] at h
    simp only at h ⊢
    unfold readTok at h ⊢
    split
    · rename_i g; rw [if_pos g] at h; simp at h
    · rename_i g; rw [if_neg g] at h
      split
      · rename_i g; rw [if_pos g] at h; simp at h
      · rename_i g; rw [if_neg g] at h
        split
        · rename_i g; rw [if_pos g] at h; simp at h
        · rename_i g; rw [if_neg g] at h
          split
          · rename_i g; rw [if_pos g] at h; simp at h
          · rename_i g; rw [if_neg g] at h
            split
            · rename_i g; rw [if_pos g] at h; simp only at h; split at h <;> omega
            · rename_i g; rw [if_neg g] at h
              split
              · rename_i g; rw [if_pos g] at h; simp at h
              · rename_i g; rw [if_neg g] at h
                split
                · rename_i g; rw [if_pos g] at h; simp at h
                · unfold textTok
                  split
                  · exact Nat.zero_le _
                  · have := txt_le (l.drop t)
                    rw [List.length_drop] at this
                    show (txt (l.drop t)).length ≤ _
                    omega
  · rename_i h0; rw [if_neg h0] at h; simp [noTok] at h
theorem may_all (sb base : Nat) (whole : Bool) (W : World) (sv : Value) (op : List (List UInt8)) (root : Bool) (k : TokL) (PA : Option Addr) (pn pc : Nat) (hJ : SwJ sb base whole W sv op root) (hop : op.length ≤ 1000000) (hk : 1 ≤ k.kind ∧ k.kind ≤ 9) (htx : k.kind = 1 → k.text.length ≤ 500000) :
    Calls Tryz.prog 73 #[.pointer (some ⟨sb, 0, none⟩), .agg #[.int .i64 k.kind, .int .i64 k.fro, .int .i64 k.to_, .string ⟨k.name.toArray⟩, .string ⟨k.text.toArray⟩, .slice PA pn pc, .int .i64 k.r]] W fun e w' => MayPost sb base whole W sv (mayS whole op root k) e w' := by
  obtain ⟨kind, fro, to_, name, text, ps, rr⟩ := k
  simp only at hk htx ⊢
  have h9 : kind = 1 ∨ kind = 2 ∨ kind = 3 ∨ kind = 4 ∨ kind = 5 ∨ kind = 6 ∨ kind = 7 ∨ kind = 8 ∨ kind = 9 := by omega
  rcases h9 with rfl | rfl | rfl | rfl | rfl | rfl | rfl | rfl | rfl
  · exact may_k1 sb base whole W sv op root fro to_ rr name text ps PA pn pc hJ hop (htx rfl)
  · exact may_k2 sb base whole W sv op root fro to_ rr name text ps PA pn pc hJ hop
  · exact may_k3 sb base whole W sv op root fro to_ rr name text ps PA pn pc hJ hop
  · exact may_k4 sb base whole W sv op root fro to_ rr name text ps PA pn pc hJ hop
  · exact may_k5 sb base whole W sv op root fro to_ rr name text ps PA pn pc hJ hop
  · exact may_k6 sb base whole W sv op root fro to_ rr name text ps PA pn pc hJ hop
  · exact may_k7 sb base whole W sv op root fro to_ rr name text ps PA pn pc hJ hop
  · exact may_k8 sb base whole W sv op root fro to_ rr name text ps PA pn pc hJ hop
  · exact may_k9 sb base whole W sv op root fro to_ rr name text ps PA pn pc hJ hop
theorem own_type {w : World} {B B' : Nat} {e e' : TypeId} {c c' n n' : Nat} {v v' : Value} {xs xs' : List Value} (h : w.ownsRow B e c v n xs) (h' : w.ownsRow B' e' c' v' n' xs') (hT : e ≠ e') {b : Nat} (hb : v.ownBlock = some b) : some b ≠ v'.ownBlock := by
  intro hb'
  obtain ⟨_, ⟨hv, _⟩ | ⟨g, cap, cur, hv, _, hh, _⟩⟩ := h
  · rw [hv] at hb; simp [Value.ownBlock] at hb
  · obtain ⟨_, ⟨hv', _⟩ | ⟨g', cap', cur', hv', _, hh', _⟩⟩ := h'
    · rw [hv'] at hb'; simp [Value.ownBlock] at hb'
    · rw [hv] at hb
      rw [hv'] at hb'
      simp [Value.ownBlock] at hb hb'
      subst hb
      subst hb'
      rw [hh] at hh'
      cases hh'
      exact hT rfl
theorem Byt.moveA {w w' : World} {B B' n cap : Nat} {A : Option Addr} {l : List UInt8} (h : Byt w B A n cap l) (hB : B ≤ B') (hk : 0 < cap → ∀ b i, A = some ⟨b, i, none⟩ → b < B → w'.heap[b]? = w.heap[b]?) : Byt w' B' A n cap l := by
  obtain ⟨h1, h2, h3, h4, h5⟩ := h
  refine ⟨h1, h2, h3, h4, fun h0 => ?_⟩
  obtain ⟨b, o, e, hb, hc⟩ := h5 h0
  refine ⟨b, o, e, by omega, fun i u hu => ?_⟩
  rw [← hc i u hu]
  unfold World.cell?
  rw [hk h0 b o e hb]
/-- While tokens are swept: their row, what is open, the bytes. -/
structure OJ (w0 wr : World) (sb base : Nat) (whole : Bool) (A : Option Addr) (n cap : Nat) (l : List UInt8) (v : Value) (vs : List TokV) (sv : Value) (op : List (List UInt8)) (root : Bool) : Prop where
  gro : GrowT 26 w0 wr base v vs
  sw : SwJ sb base whole wr sv op root
  byt : Byt wr wr.heap.size A n cap l
  off2 : ∀ x ∈ vs, 0 < x.c → ∀ b i, x.A = some ⟨b, i, none⟩ → b ≠ sb ∧ some b ≠ sv.ownBlock
theorem OJ.kept {w0 wr w' : World} {sb base : Nat} {whole : Bool} {A : Option Addr} {n cap : Nat} {l : List UInt8} {v : Value} {vs : List TokV} {sv : Value} {op : List (List UInt8)} {root : Bool} (h : OJ w0 wr sb base whole A n cap l v vs sv op root) (hb : Below wr.heap.size wr w') : OJ w0 w' sb base whole A n cap l v vs sv op root :=
  ⟨h.gro.kept hb, h.sw.kept hb, (h.byt.below hb).more hb.size, h.off2⟩
/-- Behind 'may'. -/
theorem OJ.may {w0 wr w' : World} {sb base : Nat} {whole : Bool} {A : Option Addr} {n cap : Nat} {l : List UInt8} {v : Value} {vs : List TokV} {sv sv' : Value} {op op' : List (List UInt8)} {root root' : Bool} (h : OJ w0 wr sb base whole A n cap l v vs sv op root) (h0 : sb = w0.heap.size) (hA : 0 < cap → ∀ b i, A = some ⟨b, i, none⟩ → b ≠ sb ∧ b < base)
    (hJ : SwJ sb base whole w' sv' op' root') (hM : MF sb wr w' sv sv') : OJ w0 w' sb base whole A n cap l v vs sv' op' root' := by
  have hown : ∀ g, v.ownBlock = some g → w'.heap[g]? = wr.heap[g]? := fun g hg => by
    have hl := ownBlock_lt h.gro.own hg
    exact hM.blk g hl.1 (by have := h.sw.lt; omega) (own_type h.gro.own h.sw.own (by decide) hg)
  refine ⟨⟨h.gro.below.trans (by rw [← h0]; exact hM.below), h.gro.base0, Nat.le_trans h.gro.base1 hM.below.size, ?_, fun x hx => hM.keep (h.gro.prs x hx) (h.off2 x hx), h.gro.off⟩, hJ, h.byt.moveA hM.below.size fun h9 b i hAA hb => hM.blk b hb (hA h9 b i hAA).1 (ownS_ne h.sw.own (hA h9 b i hAA).2), fun x hx hc b i hxA => ⟨(h.off2 x hx hc b i hxA).1, ?_⟩⟩
  · obtain ⟨hl, h2 | ⟨g, cp, cur, hv, hg, hh, r⟩⟩ := h.gro.own
    · exact ⟨hl, .inl h2⟩
    · exact ⟨hl, .inr ⟨g, cp, cur, hv, hg, (hown g (by rw [hv]; rfl)).trans hh, r⟩⟩
  · rcases hM.own with e | ⟨g, e, hg⟩
    · rw [e]; exact (h.off2 x hx hc b i hxA).2
    · rw [e]
      intro hh
      obtain ⟨b2, o2, e2, hb2, _⟩ := (h.gro.prs x hx).at_ hc
      rw [hxA] at e2
      cases e2
      cases hh
      omega
/-- One token more. -/
theorem OJ.appended {w0 wr w' : World} {sb base : Nat} {whole : Bool} {A : Option Addr} {n cap : Nat} {l : List UInt8} {v v' : Value} {vs : List TokV} {sv : Value} {op : List (List UInt8)} {root : Bool} {x : TokV} {us : Array Value} (h : OJ w0 wr sb base whole A n cap l v vs sv op root) (hA : 0 < cap → ∀ b i, A = some ⟨b, i, none⟩ → b ≠ sb ∧ b < base)
    (hx : PRd wr wr.heap.size x.A x.n x.c x.t.pairs) (hoff : 0 < x.c → ∀ b i, x.A = some ⟨b, i, none⟩ → some b ≠ v.ownBlock) (hoff2 : 0 < x.c → ∀ b i, x.A = some ⟨b, i, none⟩ → b ≠ sb ∧ some b ≠ sv.ownBlock)
    (hown : w'.ownsRow base 26 7 v' (vs.length + 1) (cellsK vs ++ x.cells)) (hg : (wr.alloc (.cells us 26)).grownBy w' v.ownBlock) (hat : v'.ownBlock = v.ownBlock ∨ v'.ownBlock = some (wr.heap.size + 1)) : OJ w0 w' sb base whole A n cap l v' (vs ++ [x]) sv op root := by
  have hs := hg.size
  rw [World.size_alloc] at hs
  have hbl : ∀ b, b < wr.heap.size → some b ≠ v.ownBlock → w'.heap[b]? = wr.heap[b]? := fun b hb hne => by
    rw [hg.block b (by rw [World.size_alloc]; omega) hne, Below.heap_alloc _ _ _ hb]
  refine ⟨h.gro.appended hx hoff hown hg hat, ⟨?_, ?_, h.sw.lt, by have := h.sw.le; omega, h.sw.inv⟩, h.byt.moveA (by omega) fun h9 b i hAA hb => hbl b hb (fun e => by have := (ownBlock_lt h.gro.own e.symm).2; have := (hA h9 b i hAA).2; omega), ?_⟩
  · rw [hbl sb (lt_of h.sw.sw) (fun e => by have := (ownBlock_lt h.gro.own e.symm).2; have := h.sw.lt; omega)]
    exact h.sw.sw
  · obtain ⟨hl, h2 | ⟨g, cp, cur, hv, hgb, hh, r⟩⟩ := h.sw.own
    · exact ⟨hl, .inl h2⟩
    · refine ⟨hl, .inr ⟨g, cp, cur, hv, hgb, (hbl g (lt_of hh) ?_).trans hh, r⟩⟩
      exact own_type h.sw.own h.gro.own (by decide) (by rw [hv]; rfl)
  · intro y hy
    rcases List.mem_append.1 hy with hy | hy
    · exact h.off2 y hy
    · rw [List.mem_singleton] at hy; subst hy; exact hoff2
end Go.Proofs.YtmclngahdklfkaaGreatDoor
/- sweep.over. -/
namespace Go.Proofs.YtmclngahdklfkaaGreatDoor
open Go.ChangeShapes Go.WideShapes Go.ChangeAt Go.RowKit
set_option linter.unusedVariables false
theorem may_len {whole : Bool} {op op' : List (List UInt8)} {root root' : Bool} {k : TokL} (h : mayS whole op root k = some (op', root')) : op'.length ≤ op.length + 1 := by
  unfold mayS at h
  repeat' split at h
  all_goals first | (cases h; done) | (cases h; simp; done) | (cases h; omega) | (cases h; rw [List.length_dropLast]; omega)
theorem may_same {op op' : List (List UInt8)} {root root' whole : Bool} {k : TokL} (h1 : k.kind = 1) (h : mayS whole op root k = some (op', root')) : op' = op := by
  unfold mayS at h
  rw [if_neg (by omega), if_neg (by omega), if_neg (by omega), if_pos h1] at h
  split at h
  · cases h
  · cases h; rfl
theorem prs_far {w0 wr w2 w3 w4 : World} {sb base : Nat} {whole : Bool} {A : Option Addr} {n cap : Nat} {l : List UInt8} {v : Value} {vs : List TokV} {sv sv' : Value} {op : List (List UInt8)} {root : Bool} {PA : Option Addr} {pn pc : Nat} {ps : List PairL}
    (h3 : PRd w3 w3.heap.size PA pn pc ps) (h2 : PRd w2 w2.heap.size PA pn pc ps) (hlo : ∀ b i, PA = some ⟨b, i, none⟩ → wr.heap.size ≤ b) (hJ : OJ w0 wr sb base whole A n cap l v vs sv op root) (h23 : w2.heap.size < w3.heap.size) (hw2 : wr.heap.size ≤ w2.heap.size) (hM : MF sb w3 w4 sv sv') :
    PRd w4 w4.heap.size PA pn pc ps ∧ (0 < pc → ∀ b i, PA = some ⟨b, i, none⟩ → some b ≠ v.ownBlock) ∧ (0 < pc → ∀ b i, PA = some ⟨b, i, none⟩ → b ≠ sb ∧ some b ≠ sv'.ownBlock) := by
  have hs : ∀ b i, PA = some ⟨b, i, none⟩ → b ≠ sb ∧ some b ≠ sv.ownBlock := fun b i h => by
    have h1 := hlo b i h
    have := hJ.sw.lt
    have := hJ.sw.le
    exact ⟨by omega, fun e => by have := (ownS_lt hJ.sw.own e.symm).1; omega⟩
  refine ⟨hM.keep h3 fun _ => hs, fun _ b i h => hJ.gro.fresh (hlo b i h), fun h0 b i h => ⟨(hs b i h).1, ?_⟩⟩
  rcases hM.own with e | ⟨g, e, hg⟩
  · rw [e]; exact (hs b i h).2
  · rw [e]
    intro hh
    obtain ⟨b2, o2, e2, hb2, _⟩ := h2.at_ h0
    rw [h] at e2
    cases e2
    cases hh
    omega
set_option maxRecDepth 100000 in
set_option maxHeartbeats 8000000 in
theorem over_c (sb : Nat) (whole : Bool) (A : Option Addr) (n cap : Nat) (l : List UInt8) (k : Nat) (w0 w : World) (h0 : sb = w0.heap.size) (hb0 : Below w0.heap.size w0 w) (hsw : w.heap[sb]? = some (.cells #[.slice none 0 0, .int .i64 0, .bool whole] 78)) (h : Byt w w.heap.size A n cap l) (hA : 0 < cap → ∀ b i, A = some ⟨b, i, none⟩ → b ≠ sb ∧ b < w.heap.size) (hW : W11 w0) (hm : n ≤ 40000) (hk : k ≤ n) :
    Calls Tryz.prog 41 #[.pointer (some ⟨sb, 0, none⟩), .slice A n cap, .int .i64 (k : Int)] w fun e w' => AllPost (overR l whole (l.length + 1) [] [] false k) w0 e w' := by
  have hln := h.length
  have HA := Lib.hid hA
  have H0 := Lib.hid h0
  have CN : Hid (∀ t : Nat, t < n → ∀ W v vs sv op root, OJ w0 W sb w.heap.size whole A n cap l v vs sv op root → Calls Tryz.prog 10 #[.slice A n cap, .int .i64 (t : Int)] W fun e w' => TokPost (nextOut l t) W e w') := Lib.hid fun t ht W v vs sv op root hG => by
    have := tokNext_c A n cap l t W hG.byt (hW.below hG.gro.below) hm
    rwa [nextAt_in l t (by omega)] at this
  have HLn := Lib.hid hln
  have hi : (Tryz.prog.info? 26).map (·.size) = some 7 := by kernel_rfl
  obtain ⟨sd, hu⟩ := isStruct_of (P := Tryz.prog) (t := 26) (by kernel_rfl)
  have HU := Lib.hid (And.intro hi hu)
  have HM := Lib.hid hm
  have J0 : OJ w0 w sb w.heap.size whole A n cap l (.slice none 0 0) [] (.slice none 0 0) [] false :=
    ⟨⟨hb0, hb0.size, Nat.le_refl _, ⟨rfl, .inl ⟨rfl, rfl⟩⟩, fun x hx => (by cases hx), fun x hx => (by cases hx)⟩, ⟨by rw [hsw]; cases whole <;> rfl, OwnS.start _ _, lt_of hsw, Nat.le_refl _, fun _ h => absurd rfl h⟩, h, fun x hx => (by cases hx)⟩
  have HJ0 := Lib.hid J0
  have HK := Lib.hid hk
  generalize hR : overR l whole (l.length + 1) [] [] false k = R at *
  have HR : Hid (R = overR l whole (n + 1) [] [] false k) := Lib.hid (by rw [← hR, HLn.out])
  clear h hln hi hu hW hb0 hsw hA h0 J0 hR hm hk
  go_enter Tryz.func41, Tryz.ntmps41
  go_wp2_with fail
  go_loopg [2, 9] (n) (fun g i v wr => ∃ (t : Nat) (vs : List TokV) (f : Nat) (sv : Value) (op : List (List UInt8)) (root : Bool), i = .int .i64 (t : Int) ∧ t ≤ n ∧ Hid (g = f) ∧ Hid (n ≤ f + t) ∧ Hid (vs.length ≤ t) ∧ Hid (op.length ≤ t) ∧ Hid (R = overR l whole (f + 1) (vs.map TokV.t) op root t) ∧ Hid (OJ w0 wr sb w.heap.size whole A n cap l v vs sv op root))
  case atStart => exact ⟨k, [], n, _, [], false, rfl, HK.out, Lib.hid rfl, Lib.hid (by omega), Lib.hid (Nat.zero_le _), Lib.hid (Nat.zero_le _), HR, HJ0⟩
  case round =>
    obtain ⟨t, vs, f, sv, op, root, rfl, ht, hgf, hg, hal, hopl, HE, HJ⟩ := hrel
    have hm := HM.out
    have ht0 : (0 : Int) ≤ (t : Int) := by omega
    have ht9 : (t : Int) ≤ 40000 := by omega
    by_cases htn : t < n
    · have hti : (t : Int) < (n : Int) := by omega
      have htl : t < l.length := by rw [HLn.out]; exact htn
      have C1 := CN.out t htn _ _ _ _ _ _ HJ.out
      have hok := nextOut_ok l t htl
      have hkd := kind_of l t
      have htx := text_le l t
      have hbad := fun e (h1 : (nextOut l t).2 = e) h2 => HE.out.trans (over_bad (f := f) (acc := vs.map TokV.t) htl h1 h2)
      have hno := fun k (h1 : nextOut l t = (k, 0)) h2 => HE.out.trans (over_no (f := f) (acc := vs.map TokV.t) htl h1 h2)
      have hmore := fun k u op' root' (h1 : nextOut l t = (k, 0)) (h2 : mayS whole op root k = some (op', root')) (h3 : k.to_ = ((u : Nat) : Int)) => HE.out.trans (over_more (f := f) (acc := vs.map TokV.t) htl h1 h2 h3)
      generalize nextOut l t = no at *
      obtain ⟨k, e⟩ := no
      simp only at hok hbad hkd htx
      have C2 := Lib.hid C1
      clear C1
      by_cases he : e = 0
      · subst he
        obtain ⟨hfro, u, hu, htu, hun⟩ := hok rfl
        clear hfro
        rw [HLn.out] at hun htx
        have HUu := Lib.hid hu
        have HKD := Lib.hid (hkd rfl)
        have HTX := Lib.hid (fun h => Nat.le_trans (htx h) (show n ≤ 500000 by omega))
        have HNO := Lib.hid (fun h2 => hno k rfl h2)
        have HMO := Lib.hid (fun op' root' h2 => hmore k u op' root' rfl h2 hu)
        clear hok hbad hno hmore htl hu hkd htx
        go_wp2_with fail
        refine C2.out.mono ?_
        intro e0 w2 hp
        obtain ⟨PA, pn, pc, rfl, hpr, hb, hlo⟩ := hp.out
        simp only at hpr
        have ka := (Below.refl _ w2).alloc (Nat.le_refl _) (.cells #[.int .i64 k.kind, .int .i64 k.fro, .int .i64 k.to_, .string ⟨k.name.toArray⟩, .string ⟨k.text.toArray⟩, .slice PA pn pc, .int .i64 k.r] 26)
        have J1 := HJ.out.kept hb
        have J2 := Lib.hid (J1.kept ka)
        have HQ := Lib.hid (hp_new w2 (.cells #[.int .i64 k.kind, .int .i64 k.fro, .int .i64 k.to_, .string ⟨k.name.toArray⟩, .string ⟨k.text.toArray⟩, .slice PA pn pc, .int .i64 k.r] 26))
        have HX := Lib.hid (And.intro ((hpr.below ka).more ka.size) (And.intro hpr hlo))
        have CM := Lib.hid (may_all sb w.heap.size whole (w2.alloc (.cells #[.int .i64 k.kind, .int .i64 k.fro, .int .i64 k.to_, .string ⟨k.name.toArray⟩, .string ⟨k.text.toArray⟩, .slice PA pn pc, .int .i64 k.r] 26)) sv op root k PA pn pc J2.out.sw (by have := hopl.out; omega) HKD.out HTX.out)
        have hw2 : wr.heap.size ≤ w2.heap.size := hb.size
        clear hpr hb hlo ka hp J1
        cases hms : mayS whole op root k with
        | none =>
          have HA2 := Lib.hid (HNO.out hms)
          rw [hms] at CM
          clear HMO HNO hms
          go_wp2_with (refine wpList_load_row rfl _ _ rfl w2.heap.size rfl _ _ _ _ HQ.out HU.out.2 rfl HU.out.1 ?_)
          refine CM.out.mono ?_
          rintro e0 w4 ⟨rfl, sv4, hM4⟩
          have B4 : Hid (Below w0.heap.size w0 w4) := Lib.hid (J2.out.gro.below.trans (by rw [← H0.out]; exact hM4.below))
          clear hM4
          go_wp2
          go_ret3
          rw [HA2.out]
          exact AllPost.bad rfl B4.out
        | some x =>
          obtain ⟨op', root'⟩ := x
          have HA2 := Lib.hid (HMO.out op' root' hms)
          have HMS := Lib.hid hms
          have HOL := Lib.hid (may_len hms)
          rw [hms] at CM
          clear HMO HNO hms
          go_wp2_with (refine wpList_load_row rfl _ _ rfl w2.heap.size rfl _ _ _ _ HQ.out HU.out.2 rfl HU.out.1 ?_)
          refine CM.out.mono ?_
          rintro e0 w4 ⟨rfl, sv4, hJ4, hM4⟩
          have J4 := Lib.hid (J2.out.may H0.out HA.out hJ4 hM4)
          have hq4 : w4.heap[w2.heap.size]? = some (.cells #[.int .i64 k.kind, .int .i64 k.fro, .int .i64 k.to_, .string ⟨k.name.toArray⟩, .string ⟨k.text.toArray⟩, .slice PA pn pc, .int .i64 k.r] 26) := by
            rw [hM4.blk w2.heap.size (by simp) (by have := HJ.out.sw.lt; have := HJ.out.sw.le; omega) (fun e => by have := (ownS_lt HJ.out.sw.own e.symm).1; omega)]
            exact HQ.out
          have HQ4 := Lib.hid hq4
          have x0 := cell_of 0 hq4
          have x2 := cell_of 2 hq4
          have hsw4 := hJ4.sw
          have HX4 := Lib.hid (prs_far HX.out.1 HX.out.2.1 HX.out.2.2 HJ.out (by simp) hw2 hM4)
          obtain ⟨SA, SN, SC, hsv4, hSN⟩ : ∃ SA SN SC, sv4 = .slice SA SN SC ∧ SN = op'.length := by
            obtain ⟨a, b, h⟩ := hJ4.own.form
            exact ⟨a, _, b, h, rfl⟩
          subst hsv4
          have u0 := cell_of 0 hsw4
          have u2 := cell_of 2 hsw4
          have hvl : vs.length ≤ 1000000000 := by have := hal.out; omega
          have hba : w.heap.size ≤ w4.heap.size := J4.out.gro.base1
          clear hM4 hJ4 hq4 hsw4
          by_cases hk1 : k.kind = 1
          · have kd : (k.kind != 1) = false := by simp [hk1]
            have HK1 := Lib.hid hk1
            clear hk1
            cases whole with
            | false =>
              have hleft : leftOut false op k = false := by simp [leftOut]
              clear hSN
              have HA3 : Hid (R = overR l false f ((vs ++ [(⟨k, PA, pn, pc⟩ : TokV)]).map TokV.t) op' root' u) := Lib.hid (by rw [HA2.out, if_neg (by rw [hleft]; simp), List.map_append]; rfl)
              clear hleft HA2 HMS
              go_wp2_with (first
                | (refine wpList_load_row rfl _ _ rfl w2.heap.size rfl _ _ _ _ HQ4.out HU.out.2 rfl HU.out.1 ?_)
                | (at_builtin; refine wpList_appK rfl (.tmp 55) (.tmp 57) 36 26 rfl (.agg #[.int .i64 0, .int .i64 0, .int .i64 0, .string ⟨#[]⟩, .string ⟨#[]⟩, .slice none 0 0, .int .i64 0]) 7 88 Tryz.underlying36 info_tok rfl (by decide) w.heap.size _ vs.length (cellsK vs) rfl J4.out.gro.own (TokV.cells ⟨k, PA, pn, pc⟩) _ rfl rfl rfl (cells_one _) hvl (by decide) hba ?_))
              intro v5 w5 hown5 hg5 hat5
              have J5 := Lib.hid (J4.out.appended HA.out (x := ⟨k, PA, pn, pc⟩) HX4.out.1 HX4.out.2.1 HX4.out.2.2 hown5 hg5 hat5)
              clear hown5 hg5 hat5 x0 x2 u0 u2
              go_wp2
              go_roundg (f - 1)
              case measure => have := hg.out; have := hgf.out; omega
              case rel => exact ⟨u, vs ++ [⟨k, PA, pn, pc⟩], f - 1, _, op', root', by rw [HUu.out], by omega, Lib.hid rfl, Lib.hid (by have := hg.out; omega), Lib.hid (by have := hal.out; simp; omega), Lib.hid (by have := hopl.out; have := HOL.out; omega), Lib.hid (by rw [HA3.out, show f - 1 + 1 = f by have := hg.out; omega]), J5⟩
            | true =>
              have hop : op' = op := may_same HK1.out HMS.out
              cases op' with
              | nil =>
                have hs0 : SN = 0 := by simpa using hSN
                clear hSN
                subst hs0
                have hleft : leftOut true op k = true := by rw [← hop]; simp [leftOut, HK1.out]
                clear hop
                have HA3 : Hid (R = overR l true f (vs.map TokV.t) [] root' u) := Lib.hid (by rw [HA2.out, if_pos hleft])
                clear hleft HA2 HMS
                go_wp2
                go_roundg (f - 1)
                case measure => have := hg.out; have := hgf.out; omega
                case rel => exact ⟨u, vs, f - 1, _, [], root', by rw [HUu.out], by omega, Lib.hid rfl, Lib.hid (by have := hg.out; omega), Lib.hid (by have := hal.out; omega), Lib.hid (Nat.zero_le _), Lib.hid (by rw [HA3.out, show f - 1 + 1 = f by have := hg.out; omega]), J4⟩
              | cons a op2 =>
                have hleft : leftOut true op k = false := by rw [← hop]; simp [leftOut]
                have hsn : (0 : Int) < (SN : Int) := by rw [hSN, List.length_cons]; omega
                clear hSN hop
                have HA3 : Hid (R = overR l true f ((vs ++ [(⟨k, PA, pn, pc⟩ : TokV)]).map TokV.t) (a :: op2) root' u) := Lib.hid (by rw [HA2.out, if_neg (by rw [hleft]; simp), List.map_append]; rfl)
                clear hleft HA2 HMS
                go_wp2_with (first
                  | (refine wpList_load_row rfl _ _ rfl w2.heap.size rfl _ _ _ _ HQ4.out HU.out.2 rfl HU.out.1 ?_)
                  | (at_builtin; refine wpList_appK rfl (.tmp 55) (.tmp 57) 36 26 rfl (.agg #[.int .i64 0, .int .i64 0, .int .i64 0, .string ⟨#[]⟩, .string ⟨#[]⟩, .slice none 0 0, .int .i64 0]) 7 88 Tryz.underlying36 info_tok rfl (by decide) w.heap.size _ vs.length (cellsK vs) rfl J4.out.gro.own (TokV.cells ⟨k, PA, pn, pc⟩) _ rfl rfl rfl (cells_one _) hvl (by decide) hba ?_))
                intro v5 w5 hown5 hg5 hat5
                have J5 := Lib.hid (J4.out.appended HA.out (x := ⟨k, PA, pn, pc⟩) HX4.out.1 HX4.out.2.1 HX4.out.2.2 hown5 hg5 hat5)
                clear hown5 hg5 hat5 x0 x2 u0 u2
                go_wp2
                go_roundg (f - 1)
                case measure => have := hg.out; have := hgf.out; omega
                case rel => exact ⟨u, vs ++ [⟨k, PA, pn, pc⟩], f - 1, _, a :: op2, root', by rw [HUu.out], by omega, Lib.hid rfl, Lib.hid (by have := hg.out; omega), Lib.hid (by have := hal.out; simp; omega), Lib.hid (by have := hopl.out; have := HOL.out; omega), Lib.hid (by rw [HA3.out, show f - 1 + 1 = f by have := hg.out; omega]), J5⟩
          · have kd : (k.kind != 1) = true := by simp [hk1]
            have hleft : leftOut whole op k = false := by simp [leftOut, hk1]
            clear hk1 hSN
            have HA3 : Hid (R = overR l whole f ((vs ++ [(⟨k, PA, pn, pc⟩ : TokV)]).map TokV.t) op' root' u) := Lib.hid (by rw [HA2.out, if_neg (by rw [hleft]; simp), List.map_append]; rfl)
            clear hleft HA2 HMS
            go_wp2_with (first
              | (refine wpList_load_row rfl _ _ rfl w2.heap.size rfl _ _ _ _ HQ4.out HU.out.2 rfl HU.out.1 ?_)
              | (at_builtin; refine wpList_appK rfl (.tmp 55) (.tmp 57) 36 26 rfl (.agg #[.int .i64 0, .int .i64 0, .int .i64 0, .string ⟨#[]⟩, .string ⟨#[]⟩, .slice none 0 0, .int .i64 0]) 7 88 Tryz.underlying36 info_tok rfl (by decide) w.heap.size _ vs.length (cellsK vs) rfl J4.out.gro.own (TokV.cells ⟨k, PA, pn, pc⟩) _ rfl rfl rfl (cells_one _) hvl (by decide) hba ?_))
            intro v5 w5 hown5 hg5 hat5
            have J5 := Lib.hid (J4.out.appended HA.out (x := ⟨k, PA, pn, pc⟩) HX4.out.1 HX4.out.2.1 HX4.out.2.2 hown5 hg5 hat5)
            clear hown5 hg5 hat5 x0 x2 u0 u2
            go_wp2
            go_roundg (f - 1)
            case measure => have := hg.out; have := hgf.out; omega
            case rel => exact ⟨u, vs ++ [⟨k, PA, pn, pc⟩], f - 1, _, op', root', by rw [HUu.out], by omega, Lib.hid rfl, Lib.hid (by have := hg.out; omega), Lib.hid (by have := hal.out; simp; omega), Lib.hid (by have := hopl.out; have := HOL.out; omega), Lib.hid (by rw [HA3.out, show f - 1 + 1 = f by have := hg.out; omega]), J5⟩
      · have HA2 := Lib.hid (hbad e rfl he)
        have hei : ((e : Int) == 0) = false := by simp; omega
        clear hok hbad hno hmore htl hkd htx
        go_wp2_with fail
        refine C2.out.mono ?_
        intro e0 w2 hp
        obtain ⟨PA, pn, pc, rfl, hpr, hb, hlo⟩ := hp.out
        have B := Lib.hid ((HJ.out.kept hb).gro.below.alloc (HJ.out.kept hb).gro.below.size (.cells #[.int .i64 k.kind, .int .i64 k.fro, .int .i64 k.to_, .string ⟨k.name.toArray⟩, .string ⟨k.text.toArray⟩, .slice PA pn pc, .int .i64 k.r] 26))
        clear hpr hb hlo hp
        go_wp2
        go_ret3
        rw [HA2.out]
        exact AllPost.bad rfl B.out
    · have hti : ¬ (t : Int) < (n : Int) := by omega
      obtain rfl : t = n := by omega
      have htl : ¬ t < l.length := by rw [HLn.out]; exact htn
      have hsw := HJ.out.sw.sw
      obtain ⟨SA, SN, SC, hsv, hSN⟩ : ∃ SA SN SC, sv = .slice SA SN SC ∧ SN = op.length := by
        obtain ⟨a, b, h⟩ := HJ.out.sw.own.form
        exact ⟨a, _, b, h, rfl⟩
      subst hsv
      have z0 := cell_of 0 hsw
      have z1 := cell_of 1 hsw
      have z2 := cell_of 2 hsw
      cases op with
      | cons a op =>
        have hsn : (0 : Int) < (SN : Int) := by rw [hSN, List.length_cons]; omega
        have HA2 := Lib.hid (HE.out.trans (over_open htl (by simp)))
        clear hSN htl hsw
        go_wp2
        go_ret3
        rw [HA2.out]
        exact AllPost.bad rfl HJ.out.gro.below
      | nil =>
        have hs0 : SN = 0 := by simpa using hSN
        clear hSN
        subst hs0
        cases whole with
        | false =>
          have HA2 := Lib.hid (HE.out.trans (over_end htl (by simp)))
          clear htl hsw
          go_wp2
          go_ret3
          rw [HA2.out]
          exact AllPost.good HJ.out.gro rfl
        | true =>
          cases root with
          | false =>
            have HA2 := Lib.hid (HE.out.trans (over_open htl (by simp)))
            have z1' : wr.cell? ⟨sb, 1, none⟩ = some (.int .i64 0) := by simpa using z1
            clear htl hsw z1
            go_wp2
            go_ret3
            rw [HA2.out]
            exact AllPost.bad rfl HJ.out.gro.below
          | true =>
            have HA2 := Lib.hid (HE.out.trans (over_end htl (by simp)))
            have z1' : wr.cell? ⟨sb, 1, none⟩ = some (.int .i64 1) := by simpa using z1
            clear htl hsw z1
            go_wp2
            go_ret3
            rw [HA2.out]
            exact AllPost.good HJ.out.gro rfl
end Go.Proofs.YtmclngahdklfkaaGreatDoor
/- sweep.Document, the page's example. -/
namespace Go.Proofs.YtmclngahdklfkaaGreatDoor
open Go.ChangeShapes Go.WideShapes Go.ChangeAt Go.RowKit
set_option linter.unusedVariables false
theorem blankR_c (s : List UInt8) (W : World) (hs : s.length ≤ 500000) : Calls Tryz.prog 22 #[.string ⟨s.toArray⟩] W fun e w' => e = .returned (.bool (blankB s)) ∧ Below W.heap.size W w' := by
  have cv := run_toBytes W s
  have hb1 := Go.Joins.below_bytesWorld W.heap.size W 5 ⟨s.toArray⟩ (Nat.le_refl _)
  have C1 := Lib.hid (refBlanks_c _ _ _ _ 0 _ _ (byt_new W s (by omega)) (by omega) (Nat.zero_le _))
  have HB := Lib.hid hb1
  have hE : ((blankTo s 0 : Int) == (s.length : Int)) = blankB s := by
    unfold blankB
    rw [Bool.eq_iff_iff]
    simp
    omega
  have HE := Lib.hid hE
  generalize blankTo s 0 = b at *
  clear hb1 hE
  go_enter Tryz.func22, Tryz.ntmps22
  go_wp2_with fail
  refine C1.out.mono ?_
  rintro e wq ⟨rfl, hwq⟩
  subst hwq
  go_wp2
  go_ret
  exact ⟨by simp [← HE.out], HB.out⟩
set_option maxRecDepth 100000 in
set_option maxHeartbeats 4000000 in
theorem document_c (A : Option Addr) (n cap : Nat) (l : List UInt8) (at_ : Int) (w : World) (h : Byt w w.heap.size A n cap l) (hW : W11 w) (hm : n ≤ 40000) :
    Calls Tryz.prog 19 #[.slice A n cap, .int .i64 at_] w fun e w' => AllPost (overAt l at_ true) w e w' := by
  unfold overAt
  rw [h.length]
  by_cases ha : at_ < 0 ∨ (n : Int) < at_
  · rw [if_pos ha]
    clear h hW
    by_cases h0 : at_ < 0
    · have hd : decide (at_ < 0) = true := by simpa using h0
      clear ha
      go_enter Tryz.func19, Tryz.ntmps19
      go_wp2
      go_ret3
      exact AllPost.bad rfl (Below.refl _ _)
    · have h1 : (n : Int) < at_ := by omega
      clear ha
      go_enter Tryz.func19, Tryz.ntmps19
      go_wp2
      go_ret3
      exact AllPost.bad rfl (Below.refl _ _)
  · rw [if_neg ha]
    obtain ⟨k, rfl⟩ : ∃ k : Nat, at_ = (k : Int) := ⟨at_.toNat, by omega⟩
    rw [Int.toNat_natCast]
    have ka := (Below.refl w.heap.size w).alloc (Nat.le_refl _) (.cells #[.slice none 0 0, .int .i64 0, .bool true] 78)
    have C := over_c w.heap.size true A n cap l k w (w.alloc (.cells #[.slice none 0 0, .int .i64 0, .bool true] 78)) rfl ka (hp_new _ _) ((h.below ka).more ka.size) (fun h0 b i hA => by
      obtain ⟨b', o, e, hb, _⟩ := h.at_ h0
      rw [hA] at e
      cases e
      exact ⟨by omega, by rw [World.size_alloc]; omega⟩) hW hm (by omega)
    rw [h.length] at C
    have hk0 : ¬ (k : Int) < 0 := by omega
    have hk1 : ¬ (n : Int) < (k : Int) := by omega
    have CC := Lib.hid C
    generalize overR l true (n + 1) [] [] false k = R at *
    obtain ⟨L, t, x⟩ := R
    clear h hW ka C ha
    go_enter Tryz.func19, Tryz.ntmps19
    go_wp2_with fail
    refine CC.out.mono ?_
    rintro e w1 ⟨A1, n1, c1, vs, rfl, hv, hr, hb⟩
    have HF := Lib.hid (And.intro hv (And.intro hr hb))
    clear hv hr hb
    go_wp2
    go_ret3
    exact ⟨A1, n1, c1, vs, rfl, HF.out.1, HF.out.2.1, HF.out.2.2⟩
set_option maxRecDepth 100000 in
set_option maxHeartbeats 8000000 in
theorem live30_c (w : World) (hW : W11 w) : Calls Tryz.prog 18 #[] w fun e w' => e = .returned (.bool true) ∧ Below w.heap.size w w' := by
  have kc := fun (w : World) (C : Array Value) (n c : Nat) => Lib.run_convert_bytes_const (P := Tryz.prog) w 22 5 C n c Tryz.underlying22 Tryz.underlying5
  have C1 : Hid (Calls Tryz.prog 19 #[.slice (some ⟨w.heap.size, 0, none⟩) 8 8, .int .i64 0] (w.alloc (.cells #[.int .u8 60, .int .u8 97, .int .u8 62, .int .u8 120, .int .u8 60, .int .u8 47, .int .u8 97, .int .u8 62] 5 (8, 9))) fun e w' => ∃ A c, e = .returned (.tuple #[.slice A 3 c, .int .i64 8, .int .i64 0]) ∧ Below w.heap.size w w') := Lib.hid (by
    have k1 := alloc_const w [60, 97, 62, 120, 60, 47, 97, 62] (8, 9) (by decide)
    have := document_c _ _ _ _ 0 _ (k1.2.more (by simp)) (hW.below k1.1) (by decide)
    rw [show overAt [60, 97, 62, 120, 60, 47, 97, 62] 0 true = ([⟨7, 0, 3, [97], [], [], 0⟩, ⟨1, 3, 4, [], [120], [], 0⟩, ⟨9, 4, 8, [97], [], [], 0⟩], 8, 0) by kernel_rfl] at this
    refine this.mono fun e w' ⟨A, n, c, vs, he, hv, hr, hb⟩ => ?_
    have hn : n = 3 := by
      have := congrArg List.length hv
      rw [List.length_map, hr.len] at this
      exact this
    subst hn
    exact ⟨A, c, he, k1.1.trans (hb.mono k1.1.size)⟩)
  have C2 : Hid (∀ W, Below w.heap.size w W → Calls Tryz.prog 19 #[.slice (some ⟨W.heap.size, 0, none⟩) 8 8, .int .i64 0] (W.alloc (.cells #[.int .u8 60, .int .u8 97, .int .u8 47, .int .u8 62, .int .u8 60, .int .u8 98, .int .u8 47, .int .u8 62] 5 (8, 9))) fun e w' => ∃ A n c, e = .returned (.tuple #[.slice A n c, .int .i64 4, .int .i64 7]) ∧ Below W.heap.size W w') := Lib.hid fun W hb => by
    have k1 := alloc_const W [60, 97, 47, 62, 60, 98, 47, 62] (8, 9) (by decide)
    have := document_c _ _ _ _ 0 _ (k1.2.more (by simp)) (hW.below (hb.trans (k1.1.mono hb.size))) (by decide)
    rw [show overAt [60, 97, 47, 62, 60, 98, 47, 62] 0 true = ([], 4, 7) by kernel_rfl] at this
    exact this.mono fun e w' ⟨A, n, c, vs, he, hv, hr, hb⟩ => ⟨A, n, c, he, k1.1.trans (hb.mono k1.1.size)⟩
  clear hW
  go_enter Tryz.func18, Tryz.ntmps18
  go_wp2_with fail
  refine C1.out.mono ?_
  rintro e w1 ⟨A1, c1, rfl, B1⟩
  have HB1 := Lib.hid B1
  go_wp2_with fail
  clear kc
  refine (C2.out _ B1).mono ?_
  rintro e w2 ⟨A2, n2, c2, rfl, b2⟩
  have HB2 := Lib.hid (HB1.out.trans (b2.mono HB1.out.size))
  clear b2 B1
  go_wp2
  go_ret
  exact ⟨rfl, HB2.out⟩
end Go.Proofs.YtmclngahdklfkaaGreatDoor
