/- What catches a fault in a line: nothing to catch; a line. -/
import Derived.Test.YtbllodeanfdebaaGreatDoorRows
import Derived.WalkKit
import Derived.ProofKit
import Derived.OpenShut
import Derived.ShutString
import Derived.ChangeOld
import Derived.Below
import Derived.BigQuiet
import Derived.Deep.QuietTactic
import Derived.Lib.Hide
import Derived.Deep.RegionHeld3
import Derived.Lib.SlBytesConst
import Derived.Laws.CopyOwn
import Derived.Laws.CopyRow
import Derived.Lib.Bytes
import Derived.Deep.LoopGhost
import Derived.Deep.DeepFit
import Derived.Deep.DeepMust
import Derived.WalkSpells
import Derived.WalkLawsBesides
import Derived.Laws.EntriesVeiled
import Derived.Laws.Rows
import Derived.Lib.Replace
import Derived.Lib.Split
import Derived.Lib.ItoaNum
import Derived.Lib.AtoiAllCases
import Derived.Lib.AtoiErrMem
import Derived.Lib.AppendIntMem
import Derived.Maps.OwnOps
import Derived.Maps.OwnSet
import Derived.Maps.Views
import Derived.Maps.AppendAt
import Derived.Deep.AppendLies
import Derived.Defers
import Derived.Recover
import Derived.Laws.Pointers
import Derived.Test.YtbllodeanfdebaaGreatDoorShelf
import Derived.Test.YtbllodeanfdebaaGreatDoorBase
import Derived.Test.YtbllodeanfdebaaGreatDoorCsE
import Derived.Test.YtbllodeanfdebaaGreatDoorCsG
import Derived.Test.YtbllodeanfdebaaGreatDoorCsH
import Derived.Test.YtbllodeanfdebaaGreatDoorCsI
import Derived.Test.YtbllodeanfdebaaGreatDoorCsJ
import Derived.Test.YtbllodeanfdebaaGreatDoorCalm
import Derived.Test.YtbllodeanfdebaaGreatDoorCsL
import Derived.Test.YtbllodeanfdebaaGreatDoorRowS
import Derived.Test.YtbllodeanfdebaaGreatDoorRowG
import Derived.Test.YtbllodeanfdebaaGreatDoorCsO
import Derived.Test.YtbllodeanfdebaaGreatDoorCsM
import Derived.Test.YtbllodeanfdebaaGreatDoorCsN2
import Derived.Test.YtbllodeanfdebaaGreatDoorStL
import Derived.Test.YtbllodeanfdebaaGreatDoorCsO2
import Derived.Test.YtbllodeanfdebaaGreatDoorCsQ
import Derived.Test.YtbllodeanfdebaaGreatDoorStr
import Derived.Test.YtbllodeanfdebaaGreatDoorCsR
import Derived.Test.YtbllodeanfdebaaGreatDoorCsS
namespace Go.Proofs.YtbllodeanfdebaaGreatDoor
open Go.ChangeShapes Go.WideShapes Go.ChangeAt Go.RowKit
set_option linter.unusedVariables false
theorem rep11 : (Array.replicate 11 undef : Array Value) = #[undef, undef, undef, undef, undef, undef, undef, undef, undef, undef, undef] := rfl
set_option linter.unusedSimpArgs false in
set_option maxRecDepth 100000 in
set_option maxHeartbeats 4000000 in
theorem catchIdle_c (p0 p1 p2 : Addr) (w : World) :
    CallsD Tryz.prog 16 #[.pointer (some p0), .pointer (some p1), .pointer (some p2)] .returning w fun e u' w' => e = .returned (.tuple #[]) ∧ u' = .returning ∧ Below w.heap.size w w' := by
  have hta : ∀ W, (Instr.typeAssert .nilIface 20 51 true).run Tryz.prog W = .ok (.tuple #[.agg #[.int .i64 0], .bool false]) W := fun W => by kernel_rfl
  refine callsD_of_wpS Tryz.func16 rfl fun c₀ cs hu => ?_
  apply wpS_seq
  apply wpS_region
  simp [wpOpsS, go_sem, recoverD, hu, Tryz.ntmps16, Exit.thenS, hta, rep11]
  refine wpS_of_wp ?_
  go_wp2
  refine ⟨rfl, .returning, by cases c₀; simp_all, .tuple #[], results_none rfl _ _ _, rfl, rfl, (Below.refl _ _).alloc (Nat.le_refl _) _⟩
def Z9 : Array Value := #[.slice none 0 0, .int .i64 0, .int .i64 0, .int .i64 0, .int .i64 0, .int .i64 0, .int .i64 0, .slice none 0 0, .slice none 0 0]
theorem limV_nil : limV [] = Z9 := rfl
set_option linter.unusedSimpArgs false in
set_option maxRecDepth 100000 in
set_option maxHeartbeats 8000000 in
theorem catchStop_c (cb t : Nat) (vs : Array Value) (w : World) (hc : w.heap[cb]? = some (.cells vs 29)) (hs : vs.size = 9) (hn : w.heap[cb + 1]? = some (.cells #[.int .i64 0] 3)) (he : w.heap[cb + 2]? = some (.cells #[.int .i64 0] 30)) :
    CallsD Tryz.prog 16 #[.pointer (some ⟨cb, 0, none⟩), .pointer (some ⟨cb + 1, 0, none⟩), .pointer (some ⟨cb + 2, 0, none⟩)] (.panicking (lineV t)) w fun e u' w' => e = .returned (.tuple #[]) ∧ (u' = .panicking [{ v := .iface 51 (.agg #[.int .i64 (t : Int)]), recovered := true }] ∧ w'.heap[cb]? = some (.cells (limV []) 29) ∧ w'.heap[cb + 1]? = some (.cells #[.int .i64 (t : Int)] 3) ∧ w'.heap[cb + 2]? = some (.cells #[.int .i64 15] 30) ∧ Below cb w w') := by
  have hta : ∀ W, (Instr.typeAssert (.iface 51 (.agg #[.int .i64 (t : Int)])) 20 51 true).run Tryz.prog W = .ok (.tuple #[.agg #[.int .i64 (t : Int)], .bool true]) W := fun W => by kernel_rfl
  refine callsD_of_wpS Tryz.func16 rfl fun c₀ cs hu => ?_
  unfold lineV at hu
  apply wpS_seq
  apply wpS_region
  simp [wpOpsS, go_sem, recoverD, hu, Tryz.ntmps16, Exit.thenS, hta, rep11]
  refine wpS_of_wp ?_
  have hlt := lt_of hc
  have hlt2 := lt_of he
  have hA : ((w.alloc (.cells #[.int .i64 (t : Int)] 51)).drew).heap[cb]? = some (.cells vs 29) := hp_old hc
  have hs0 : w.heap.size ≠ cb := by omega
  have z0 : ((w.alloc (.cells #[.int .i64 (t : Int)] 51)).drew).cell? ⟨w.heap.size, 0, none⟩ = some (.int .i64 (t : Int)) := by rw [cell_of (w := (w.alloc (.cells #[.int .i64 (t : Int)] 51)).drew) 0 (hp_new w _)]; rfl
  have z1 : (((w.alloc (.cells #[.int .i64 (t : Int)] 51)).drew).setRow cb Z9).cell? ⟨w.heap.size, 0, none⟩ = some (.int .i64 (t : Int)) := by
    rw [cell_of (w := ((w.alloc (.cells #[.int .i64 (t : Int)] 51)).drew).setRow cb Z9) 0 ((setRow_other _ _ _ _ hs0).trans (hp_new w _))]; rfl
  have b1 : (((w.alloc (.cells #[.int .i64 (t : Int)] 51)).drew).setRow cb Z9).heap[cb + 1]? = some (.cells #[.int .i64 0] 3) := (setRow_other _ _ _ _ (by omega)).trans (hp_old hn)
  have b2 : (((w.alloc (.cells #[.int .i64 (t : Int)] 51)).drew).setRow cb Z9).heap[cb + 2]? = some (.cells #[.int .i64 0] 30) := (setRow_other _ _ _ _ (by omega)).trans (hp_old he)
  have b0 : (((w.alloc (.cells #[.int .i64 (t : Int)] 51)).drew).setRow cb Z9).heap[cb]? = some (.cells Z9 29) := setRow_heap _ _ _ _ _ _ hA
  have f1 := free_of 0 b1
  have c1 : (((w.alloc (.cells #[.int .i64 (t : Int)] 51)).drew).setRow cb Z9).cell? ⟨cb + 1, 0, none⟩ = some (.int .i64 0) := by rw [cell_of 0 b1]; rfl
  have c2 : ((((w.alloc (.cells #[.int .i64 (t : Int)] 51)).drew).setRow cb Z9).setCell ⟨cb + 1, 0, none⟩ (.int .i64 (t : Int))).cell? ⟨cb + 2, 0, none⟩ = some (.int .i64 0) := by
    rw [cell_of 0 ((hp_other (by omega)).trans b2)]; rfl
  have f2 : ((((w.alloc (.cells #[.int .i64 (t : Int)] 51)).drew).setRow cb Z9).setCell ⟨cb + 1, 0, none⟩ (.int .i64 (t : Int))).frozen? ⟨cb + 2, 0, none⟩ = false := free_of 0 ((hp_other (by omega)).trans b2)
  have HB := Lib.hid (below_setRow (((Below.refl cb w).alloc (show cb ≤ w.heap.size by omega) (.cells #[.int .i64 (t : Int)] 51)).drew) (Nat.le_refl _) Z9)
  have HFIN : Hid (((((w.alloc (.cells #[.int .i64 (t : Int)] 51)).drew).setRow cb Z9).setCell ⟨cb + 1, 0, none⟩ (.int .i64 (t : Int))).setCell ⟨cb + 2, 0, none⟩ (.int .i64 15) |> fun W => W.heap[cb]? = some (.cells (limV []) 29) ∧ W.heap[cb + 1]? = some (.cells #[.int .i64 (t : Int)] 3) ∧ W.heap[cb + 2]? = some (.cells #[.int .i64 15] 30) ∧ Below cb w W) := Lib.hid
    ⟨(hp_other (by omega)).trans ((hp_other (by omega)).trans b0), (hp_other (by omega)).trans (hp_set b1), hp_set ((hp_other (by omega)).trans b2), (HB.out.setCell (p := ⟨cb + 1, 0, none⟩) (by show cb ≤ cb + 1; omega) _).setCell (p := ⟨cb + 2, 0, none⟩) (by show cb ≤ cb + 2; omega) _⟩
  have HS : Hid ((Tryz.prog.info? 29).map (·.size) = some 9) := Lib.hid (by kernel_rfl)
  clear hc hn he b0 b1 b2 HB
  go_wp2
  refine wp_region_drew (by kernel_rfl) ?_
  refine wpAny_take (i := 0) (oi := { dst := some 11, op := Op.build 29 #[], type := 29, pos := "cases.go:189", after := #[], guard := none }) (v := ?_) rfl (by kernel_rfl) (by kernel_rfl) (by kernel_rfl) (fun _ _ _ h => h) (Or.inl ⟨by rfl, fun w9 => by go_simp; try with_reducible rfl⟩) ?_
  (try simp only [Act.put, List.setIfInBounds_toArray, List.set_cons_zero, List.set_cons_succ])
  refine wpAny_take (i := 1) (oi := { dst := some 12, op := Op.fieldAddr 51 (Operand.tmp 3) 0, type := 0, pos := "cases.go:189", after := #[{ on := 3, ground := Ground.gcOnly Departure.lateStores }], guard := none }) (v := ?_) rfl (by kernel_rfl) (by kernel_rfl) (by kernel_rfl) (fun _ _ _ h => h) (Or.inl ⟨by rfl, fun w9 => by go_simp; try with_reducible rfl⟩) ?_
  (try simp only [Act.put, List.setIfInBounds_toArray, List.set_cons_zero, List.set_cons_succ])
  refine wpAny_ready (rs := [2, 3]) (by kernel_rfl) (by simp) ?_
  refine AllReady.cons (o := { dst := some 13, op := Op.load 3 (Operand.tmp 12), type := 3, pos := "cases.go:189", after := #[{ on := 1, ground := Ground.data }, { on := 3, ground := Ground.gcOnly Departure.lateStores }], guard := none }) rfl (fun K hK => ?_) ?_
  · go_simp
    refine hK _ _ ?_
    clear hK K
    (try simp only [Act.put, List.setIfInBounds_toArray, List.set_cons_zero, List.set_cons_succ])
    refine wpAny_ready (rs := [3]) (by kernel_rfl) (by simp) ?_
    refine AllReady.cons (o := { dst := none, op := Op.store 29 (Operand.tmp 0) (Operand.tmp 11), type := 0, pos := "cases.go:189", after := #[{ on := 0, ground := Ground.data }, { on := 0, ground := Ground.phase }, { on := 1, ground := Ground.textOnly Departure.lateStores }, { on := 2, ground := Ground.textOnly Departure.lateStores }], guard := none }) rfl (fun K hK => ?_) ?_
    · refine step_op rfl (wp_store_row 29 (.tmp 0) (.tmp 11) rfl cb Z9 rfl rfl _ _ hA HS.out hs (by kernel_rfl) ?_)
      refine hK _ _ ?_
      clear hK K
      (try simp only [Act.put, List.setIfInBounds_toArray, List.set_cons_zero, List.set_cons_succ])
      refine wpAny_ready (rs := [4]) (by kernel_rfl) (by simp) ?_
      refine AllReady.cons (o := { dst := none, op := Op.store 3 (Operand.tmp 1) (Operand.tmp 13), type := 0, pos := "cases.go:189", after := #[{ on := 2, ground := Ground.data }, { on := 3, ground := Ground.chain }, { on := 0, ground := Ground.phase }, { on := 1, ground := Ground.phase }, { on := 2, ground := Ground.phase }, { on := 3, ground := Ground.phase }], guard := none }) rfl (fun K hK => ?_) ?_
      · go_simp
        refine hK _ _ ?_
        clear hK K
        (try simp only [Act.put, List.setIfInBounds_toArray, List.set_cons_zero, List.set_cons_succ])
        refine wpAny_ready (rs := [5]) (by kernel_rfl) (by simp) ?_
        refine AllReady.cons (o := { dst := none, op := Op.store 30 (Operand.tmp 2) (Operand.const (Value.int IntKind.i64 15)), type := 0, pos := "cases.go:189", after := #[{ on := 4, ground := Ground.chain }, { on := 0, ground := Ground.phase }, { on := 1, ground := Ground.phase }, { on := 2, ground := Ground.phase }, { on := 3, ground := Ground.phase }, { on := 4, ground := Ground.phase }], guard := none }) rfl (fun K hK => ?_) ?_
        · go_simp
          refine hK _ _ ?_
          clear hK K
          (try simp only [Act.put, List.setIfInBounds_toArray, List.set_cons_zero, List.set_cons_succ])
          refine wpAny_done (by kernel_rfl) ?_ _
          refine ⟨rfl, _, rfl, .tuple #[], results_none rfl _ _ _, rfl, rfl, HFIN.out⟩
        exact AllReady.nil
      exact AllReady.nil
    exact AllReady.nil
  refine AllReady.cons (o := { dst := none, op := Op.store 29 (Operand.tmp 0) (Operand.tmp 11), type := 0, pos := "cases.go:189", after := #[{ on := 0, ground := Ground.data }, { on := 0, ground := Ground.phase }, { on := 1, ground := Ground.textOnly Departure.lateStores }, { on := 2, ground := Ground.textOnly Departure.lateStores }], guard := none }) rfl (fun K hK => ?_) ?_
  · refine step_op rfl (wp_store_row 29 (.tmp 0) (.tmp 11) rfl cb Z9 rfl rfl _ _ hA HS.out hs (by kernel_rfl) ?_)
    refine hK _ _ ?_
    clear hK K
    (try simp only [Act.put, List.setIfInBounds_toArray, List.set_cons_zero, List.set_cons_succ])
    refine wpAny_ready (rs := [2]) (by kernel_rfl) (by simp) ?_
    refine AllReady.cons (o := { dst := some 13, op := Op.load 3 (Operand.tmp 12), type := 3, pos := "cases.go:189", after := #[{ on := 1, ground := Ground.data }, { on := 3, ground := Ground.gcOnly Departure.lateStores }], guard := none }) rfl (fun K hK => ?_) ?_
    · go_simp
      refine hK _ _ ?_
      clear hK K
      (try simp only [Act.put, List.setIfInBounds_toArray, List.set_cons_zero, List.set_cons_succ])
      refine wpAny_ready (rs := [4]) (by kernel_rfl) (by simp) ?_
      refine AllReady.cons (o := { dst := none, op := Op.store 3 (Operand.tmp 1) (Operand.tmp 13), type := 0, pos := "cases.go:189", after := #[{ on := 2, ground := Ground.data }, { on := 3, ground := Ground.chain }, { on := 0, ground := Ground.phase }, { on := 1, ground := Ground.phase }, { on := 2, ground := Ground.phase }, { on := 3, ground := Ground.phase }], guard := none }) rfl (fun K hK => ?_) ?_
      · go_simp
        refine hK _ _ ?_
        clear hK K
        (try simp only [Act.put, List.setIfInBounds_toArray, List.set_cons_zero, List.set_cons_succ])
        refine wpAny_ready (rs := [5]) (by kernel_rfl) (by simp) ?_
        refine AllReady.cons (o := { dst := none, op := Op.store 30 (Operand.tmp 2) (Operand.const (Value.int IntKind.i64 15)), type := 0, pos := "cases.go:189", after := #[{ on := 4, ground := Ground.chain }, { on := 0, ground := Ground.phase }, { on := 1, ground := Ground.phase }, { on := 2, ground := Ground.phase }, { on := 3, ground := Ground.phase }, { on := 4, ground := Ground.phase }], guard := none }) rfl (fun K hK => ?_) ?_
        · go_simp
          refine hK _ _ ?_
          clear hK K
          (try simp only [Act.put, List.setIfInBounds_toArray, List.set_cons_zero, List.set_cons_succ])
          refine wpAny_done (by kernel_rfl) ?_ _
          refine ⟨rfl, _, rfl, .tuple #[], results_none rfl _ _ _, rfl, rfl, HFIN.out⟩
        exact AllReady.nil
      exact AllReady.nil
    exact AllReady.nil
  exact AllReady.nil
end Go.Proofs.YtbllodeanfdebaaGreatDoor
