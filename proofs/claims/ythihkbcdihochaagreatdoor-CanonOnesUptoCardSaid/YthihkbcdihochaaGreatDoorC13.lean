/- Texts of ours, joined: CkQ. -/
import Derived.Test.YthihkbcdihochaaGreatDoorRows
import Derived.WalkKit
import Derived.ProofKit
import Derived.OpenShut
import Derived.ShutString
import Derived.ChangeOld
import Derived.Below
import Derived.BigQuiet
import Derived.Deep.QuietTactic
import Derived.Lib.Hide
import Derived.Deep.RegionHeld3
import Derived.Lib.SlBytesConst
import Derived.Laws.CopyOwn
import Derived.Laws.CopyRow
import Derived.Lib.Bytes
import Derived.Deep.LoopGhost
import Derived.Deep.DeepFit
import Derived.Deep.DeepMust
import Derived.WalkSpells
import Derived.WalkLawsBesides
import Derived.Maps.OwnOps
import Derived.Maps.OwnSet
import Derived.Maps.Views
import Derived.Laws.EntriesVeiled
import Derived.Laws.Rows
import Derived.Maps.AppendAt
import Derived.Lib.SmallJoins
import Derived.Deep.AppendLies
import Derived.Deep.RegionLaw
import Derived.Deep.RegionWith
import Derived.Test.YthihkbcdihochaaGreatDoorC1
import Derived.Test.YthihkbcdihochaaGreatDoorC4
import Derived.Test.YthihkbcdihochaaGreatDoorC2
import Derived.Test.YthihkbcdihochaaGreatDoorC3
import Derived.Test.YthihkbcdihochaaGreatDoorC5
import Derived.Test.YthihkbcdihochaaGreatDoorC10
/- check.next. -/
namespace Go.Proofs.YthihkbcdihochaaGreatDoor
open Go.ChangeShapes Go.WideShapes Go.ChangeAt Go.RowKit
set_option linter.unusedVariables false
theorem OwnN.form {w : World} {base : Nat} {v : Value} {op : List (List UInt8 × List UInt8)} (h : OwnN w base v op) : ∃ A c, v = .slice A op.length c := by
  obtain ⟨hl, ⟨hv, h0⟩ | ⟨g, cap, cur, hv, r⟩⟩ := h
  · exact ⟨none, 0, by rw [hv, h0]⟩
  · exact ⟨_, cap, hv⟩
theorem OwnN.start (w : World) (base : Nat) : OwnN w base (.slice none 0 0) [] := ⟨rfl, .inl ⟨rfl, rfl⟩⟩
theorem cN_len (l : List (List UInt8 × List UInt8)) : (l.flatMap cN).length = l.length * 2 := flat_len (c := cN) (k := 2) (fun _ => rfl) l
/-- The last one of a row that holds one: where it lies; the row without it. -/
theorem OwnN.last {w : World} {base : Nat} {v : Value} {op : List (List UInt8 × List UInt8)} {s : List UInt8 × List UInt8} (h : OwnN w base v (op ++ [s])) :
    ∃ g c, v = .slice (some ⟨g, 0, none⟩) (op.length + 1) c ∧ op.length + 1 ≤ c ∧ base ≤ g ∧ g < w.heap.size ∧ w.cell? ⟨g, op.length * 2, none⟩ = some (.string ⟨s.1.toArray⟩) ∧ w.cell? ⟨g, op.length * 2 + 1, none⟩ = some (.string ⟨s.2.toArray⟩) ∧ OwnN w base (.slice (some ⟨g, 0, none⟩) op.length c) op := by
  obtain ⟨hl, ⟨hv, h0⟩ | ⟨g, cap, cur, hv, hg, hh, hn, hc, hs, ht⟩⟩ := h
  · simp at h0
  · rw [List.length_append, List.length_singleton] at hv hn ht
    have hfl := cN_len op
    have hget : ∀ (j : Nat) u, (cN s)[j]? = some u → w.cell? ⟨g, op.length * 2 + j, none⟩ = some u := fun j u hu => by
      have hj : j < 2 := (List.getElem?_eq_some_iff.1 hu).1
      rw [cell_of _ hh]
      have : (cur.toList.take ((op.length + 1) * 2))[op.length * 2 + j]? = some u := by
        rw [ht, List.flatMap_append, List.flatMap_singleton, List.getElem?_append_right (by omega), hfl, show op.length * 2 + j - op.length * 2 = j by omega]
        exact hu
      rw [List.getElem?_take_of_lt (by omega)] at this
      simpa using this
    refine ⟨g, cap, hv, hn, hg, lt_of hh, hget 0 _ rfl, hget 1 _ rfl, hfl, .inr ⟨g, cap, cur, rfl, hg, hh, by omega, hc, hs, ?_⟩⟩
    have := congrArg (List.take (op.length * 2)) ht
    rw [List.take_take, show min (op.length * 2) ((op.length + 1) * 2) = op.length * 2 by omega] at this
    rw [this, List.flatMap_append, List.take_left' hfl]
theorem ownN_ne {w : World} {base : Nat} {v : Value} {op : List (List UInt8 × List UInt8)} (h : OwnN w base v op) {b : Nat} (hb : b < base) : some b ≠ v.ownBlock := fun e => by
  have := h.ge e.symm
  omega
theorem run_cutN {w : World} (A : Option Addr) (n cap t : Nat) (ht : t ≤ cap) : (Instr.slice 236 (.slice A n cap) none (some (.int .i64 (t : Int))) none).run Tryz.prog w = .ok (.slice A t cap) w := by
  rw [run_slice_h (P := Tryz.prog) (w := w) 236 A n cap (by kernel_rfl) .i64 (t : Int) (by omega) (by omega), show (sizeOf (Tryz.prog.elem 236)).run Tryz.prog w = .ok 2 w by kernel_rfl]
  simp [sliced]
  intro _
  cases A with
  | none => rfl
  | some a => simp [Addr.add]

theorem stepAppN {ops : Array Oper} {o : Oper} {a : Act} {K : Act → World → Prop} {Q : Exit → Act → World → Prop} {E : Prop} {w : World} (hgd : o.guard = none) (s x : Operand)
    (ho : o.op = .call { callee := .builtin .append, args := #[s, x], argTypes := #[236, 236] }) (base : Nat) (v : Value) (op : List (List UInt8 × List UInt8)) (hs : a.eval s = v) (hown : OwnN w base v op)
    (ad : Addr) (hx : a.eval x = .slice (some ad) 1 1) (new : List UInt8 × List UInt8) (hcell : ∀ (j : Nat) u, (cN new)[j]? = some u → w.cell? (ad.add j) = some u)
    (hb : op.length ≤ 1000000) (hbase : base ≤ w.heap.size)
    (h : ∀ v' w', OwnN w' base v' (op ++ [new]) → w.grownBy w' v.ownBlock → (v'.ownBlock = v.ownBlock ∨ v'.ownBlock = some w.heap.size) → K (a.put o.dst v') w') :
    if Region.wanted o (yielded ops a.tmps) = true then Oper.wp Tryz.prog o a w K Q else E := by
  have hw : Region.wanted o (yielded ops a.tmps) = true := by simp [Region.wanted, hgd]
  rw [if_pos hw]
  obtain ⟨i, hi, hz, hsz, hbt⟩ := info_name
  obtain ⟨v', w', hr, h2, h3, _, h5⟩ := run_append_own_at (P := Tryz.prog) w base 236 o.type 38 i (.agg #[.string ⟨#[]⟩, .string ⟨#[]⟩]) 2 32 Tryz.underlying236 hi hz hsz hbt rfl (by decide) v op.length (op.flatMap cN) hown ad 1 1 (cN new) rfl hcell (fun u hu => by
    simp only [cN, List.mem_cons, List.not_mem_nil, or_false] at hu
    rcases hu with rfl | rfl <;> rfl) (by unfold maxLen; omega) (by omega) hbase
  unfold Oper.wp execOp
  simp only [ho, resolve, invoke, builtin, Sem.run_bind, Sem.run_pure, Result.andThen_ok, List.map_toArray, List.map_cons, List.map_nil, hs, hx, hr]
  exact h v' w' (OwnN.snoc h2) h3 h5
/-- What stands behind check.next. -/
def NextPost (sb base : Nat) (W : World) (r : Option (List (List UInt8 × List UInt8) × Bool × Bool)) (e : Ending) (w' : World) : Prop :=
  Below sb W w' ∧ (r = none → e = .returned (.bool false)) ∧ ∀ op root text, r = some (op, root, text) → e = .returned (.bool true) ∧ ∃ sv, w'.heap[sb]? = some (.cells #[sv, .bool root, .bool text] 238) ∧ OwnN w' base sv op
set_option maxRecDepth 100000 in
set_option maxHeartbeats 8000000 in
theorem next1a (sb base : Nat) (sv : Value) (op : List (List UInt8 × List UInt8)) (root text : Bool) (k : Int) (sp lo tx : List UInt8) (A : Option Addr) (n cap : Nat) (W : World) (hq : W.heap[sb]? = some (.cells #[sv, .bool root, .bool text] 238)) (ho : OwnN W base sv op) (hsb : sb < base) (hbW : base ≤ W.heap.size) (hop : op.length ≤ 1000000) (hr : (op.isEmpty && root) = true) :
    Calls Tryz.prog 156 #[.pointer (some ⟨sb, 0, none⟩), .agg #[.int .i64 1, .string ⟨sp.toArray⟩, .string ⟨lo.toArray⟩, .slice A n cap, .string ⟨tx.toArray⟩]] W (NextPost sb base W (none)) := by
  obtain ⟨A1, c1, rfl⟩ := ho.form
  have HO := Lib.hid ho
  have HOP := Lib.hid hop
  have hsW : sb < W.heap.size := by omega
  have J0 := Lib.hid (CJ.start 41 W #[.int .i64 1, .string ⟨sp.toArray⟩, .string ⟨lo.toArray⟩, .slice A n cap, .string ⟨tx.toArray⟩])
  have HQ : Hid ((W.alloc (.cells #[.int .i64 1, .string ⟨sp.toArray⟩, .string ⟨lo.toArray⟩, .slice A n cap, .string ⟨tx.toArray⟩] 41)).heap[sb]? = some (.cells #[.slice A1 op.length c1, .bool root, .bool text] 238)) := Lib.hid (by rw [Below.heap_alloc _ _ _ hsW]; exact hq)
  have x0 := cell_of 0 HQ.out
  have x1 := cell_of 1 HQ.out
  have x2 := cell_of 2 HQ.out
  have y0 := free_of 0 HQ.out
  have y1 := free_of 1 HQ.out
  have y2 := free_of 2 HQ.out
  have z0 := cell_of 0 J0.out.2
  have z1 := cell_of 1 J0.out.2
  have z2 := cell_of 2 J0.out.2
  clear hq ho hop
  have HB0 : Hid (Below sb W (W.alloc (.cells #[.int .i64 1, .string ⟨sp.toArray⟩, .string ⟨lo.toArray⟩, .slice A n cap, .string ⟨tx.toArray⟩] 41))) := Lib.hid ((Below.refl sb W).alloc (Nat.le_of_lt hsW) _)
  have HO2 : Hid (OwnN (W.alloc (.cells #[.int .i64 1, .string ⟨sp.toArray⟩, .string ⟨lo.toArray⟩, .slice A n cap, .string ⟨tx.toArray⟩] 41)) base (.slice A1 op.length c1) op) := Lib.hid (HO.out.kept ((Below.refl _ _).alloc (Nat.le_refl _) _))
  have e1 : op = [] := by simp at hr; exact hr.1
  have e2 : root = true := by simp at hr; exact hr.2
  have hz : ((op.length : Int) == 0) = true := by rw [e1]; rfl
  subst e2
  clear hr e1
  go_enter Tryz.func156, Tryz.ntmps156
  go_wp2_with fail
  go_quiet (fail)
  have JQ : Hid (((W.alloc (.cells #[.int .i64 1, .string ⟨sp.toArray⟩, .string ⟨lo.toArray⟩, .slice A n cap, .string ⟨tx.toArray⟩] 41)).drewN nq).heap[W.heap.size]? = some (.cells #[.int .i64 1, .string ⟨sp.toArray⟩, .string ⟨lo.toArray⟩, .slice A n cap, .string ⟨tx.toArray⟩] 41)) := Lib.hid J0.out.2
  have HQ2 : Hid (((W.alloc (.cells #[.int .i64 1, .string ⟨sp.toArray⟩, .string ⟨lo.toArray⟩, .slice A n cap, .string ⟨tx.toArray⟩] 41)).drewN nq).heap[sb]? = some (.cells #[.slice A1 op.length c1, .bool true, .bool text] 238)) := Lib.hid HQ.out
  have HB2 : Hid (Below sb W ((W.alloc (.cells #[.int .i64 1, .string ⟨sp.toArray⟩, .string ⟨lo.toArray⟩, .slice A n cap, .string ⟨tx.toArray⟩] 41)).drewN nq)) := Lib.hid (below_drewN' HB0.out)
  have HO3 : Hid (OwnN ((W.alloc (.cells #[.int .i64 1, .string ⟨sp.toArray⟩, .string ⟨lo.toArray⟩, .slice A n cap, .string ⟨tx.toArray⟩] 41)).drewN nq) base (.slice A1 op.length c1) op) := Lib.hid HO2.out
  have HSZ : Hid (((W.alloc (.cells #[.int .i64 1, .string ⟨sp.toArray⟩, .string ⟨lo.toArray⟩, .slice A n cap, .string ⟨tx.toArray⟩] 41)).drewN nq).heap.size = W.heap.size + 1) := Lib.hid (by simp [World.drewN])
  clear x0 x1 x2 y0 y1 y2 z0 z1 z2 HQ HB0 HO2 J0
  generalize (W.alloc (.cells #[.int .i64 1, .string ⟨sp.toArray⟩, .string ⟨lo.toArray⟩, .slice A n cap, .string ⟨tx.toArray⟩] 41)).drewN nq = wq at *
  have x0 := cell_of 0 HQ2.out
  have x1 := cell_of 1 HQ2.out
  have x2 := cell_of 2 HQ2.out
  have y0 := free_of 0 HQ2.out
  have y1 := free_of 1 HQ2.out
  have y2 := free_of 2 HQ2.out
  have z0 := cell_of 0 JQ.out
  have z1 := cell_of 1 JQ.out
  have z2 := cell_of 2 JQ.out
  go_wp2_with fail
  have hne : W.heap.size ≠ sb := by omega
  have V0 : Hid ((wq.setCell ⟨sb, 2, none⟩ (.bool false)).heap[sb]? = some (.cells #[.slice A1 op.length c1, .bool true, .bool false] 238)) := Lib.hid (hp_set HQ2.out)
  have V1 : Hid ((wq.setCell ⟨sb, 2, none⟩ (.bool false)).heap[W.heap.size]? = some (.cells #[.int .i64 1, .string ⟨sp.toArray⟩, .string ⟨lo.toArray⟩, .slice A n cap, .string ⟨tx.toArray⟩] 41)) := Lib.hid ((hp_other hne).trans JQ.out)
  have V2 : Hid (Below sb W (wq.setCell ⟨sb, 2, none⟩ (.bool false))) := Lib.hid (HB2.out.setCell (p := ⟨sb, 2, none⟩) (Nat.le_refl _) _)
  have V3 : Hid (OwnN (wq.setCell ⟨sb, 2, none⟩ (.bool false)) base (.slice A1 op.length c1) op) := Lib.hid (ownsRow_keep HO3.out fun g hg _ => hp_other (by omega))
  have V4 : Hid ((wq.setCell ⟨sb, 2, none⟩ (.bool false)).heap.size = W.heap.size + 1) := Lib.hid (by rw [World.size_setCell]; exact HSZ.out)
  clear x0 x1 x2 y0 y1 y2 z0 z1 z2 JQ HQ2 HB2 HO3 HSZ
  generalize wq.setCell ⟨sb, 2, none⟩ (.bool false) = V at *
  have x0 := cell_of 0 V0.out
  have y0 := free_of 0 V0.out
  have y1 := free_of 1 V0.out
  have z1 := cell_of 1 V1.out
  have z2 := cell_of 2 V1.out
  go_wp2
  go_ret
  exact ⟨V2.out, fun _ => rfl, fun _ _ _ h => by cases h⟩
set_option maxRecDepth 100000 in
set_option maxHeartbeats 8000000 in
theorem next1b (sb base : Nat) (sv : Value) (op : List (List UInt8 × List UInt8)) (root text : Bool) (k : Int) (sp lo tx : List UInt8) (A : Option Addr) (n cap : Nat) (W : World) (hq : W.heap[sb]? = some (.cells #[sv, .bool root, .bool text] 238)) (ho : OwnN W base sv op) (hsb : sb < base) (hbW : base ≤ W.heap.size) (hop : op.length ≤ 1000000) (hr : (op.isEmpty && root) = false) :
    Calls Tryz.prog 156 #[.pointer (some ⟨sb, 0, none⟩), .agg #[.int .i64 1, .string ⟨sp.toArray⟩, .string ⟨lo.toArray⟩, .slice A n cap, .string ⟨tx.toArray⟩]] W (NextPost sb base W (some (op ++ [(sp, lo)], true, false))) := by
  obtain ⟨A1, c1, rfl⟩ := ho.form
  have HO := Lib.hid ho
  have HOP := Lib.hid hop
  have hsW : sb < W.heap.size := by omega
  have J0 := Lib.hid (CJ.start 41 W #[.int .i64 1, .string ⟨sp.toArray⟩, .string ⟨lo.toArray⟩, .slice A n cap, .string ⟨tx.toArray⟩])
  have HQ : Hid ((W.alloc (.cells #[.int .i64 1, .string ⟨sp.toArray⟩, .string ⟨lo.toArray⟩, .slice A n cap, .string ⟨tx.toArray⟩] 41)).heap[sb]? = some (.cells #[.slice A1 op.length c1, .bool root, .bool text] 238)) := Lib.hid (by rw [Below.heap_alloc _ _ _ hsW]; exact hq)
  have x0 := cell_of 0 HQ.out
  have x1 := cell_of 1 HQ.out
  have x2 := cell_of 2 HQ.out
  have y0 := free_of 0 HQ.out
  have y1 := free_of 1 HQ.out
  have y2 := free_of 2 HQ.out
  have z0 := cell_of 0 J0.out.2
  have z1 := cell_of 1 J0.out.2
  have z2 := cell_of 2 J0.out.2
  clear hq ho hop
  have HB0 : Hid (Below sb W (W.alloc (.cells #[.int .i64 1, .string ⟨sp.toArray⟩, .string ⟨lo.toArray⟩, .slice A n cap, .string ⟨tx.toArray⟩] 41))) := Lib.hid ((Below.refl sb W).alloc (Nat.le_of_lt hsW) _)
  have HO2 : Hid (OwnN (W.alloc (.cells #[.int .i64 1, .string ⟨sp.toArray⟩, .string ⟨lo.toArray⟩, .slice A n cap, .string ⟨tx.toArray⟩] 41)) base (.slice A1 op.length c1) op) := Lib.hid (HO.out.kept ((Below.refl _ _).alloc (Nat.le_refl _) _))
  have e1 : ((op.length : Int) == 0) = true → root = false := by
    cases op with
    | nil => simpa using hr
    | cons a t => simp; omega
  clear hr
  have HZ : ((op.length : Int) == 0) = false ∨ ((op.length : Int) == 0) = true ∧ root = false := by
    cases hz : ((op.length : Int) == 0) with
    | false => exact .inl rfl
    | true => exact .inr ⟨rfl, e1 hz⟩
  clear e1
  rcases HZ with hz | ⟨hz, rfl⟩
  · have _t := True.intro
    clear _t
    go_enter Tryz.func156, Tryz.ntmps156
    go_wp2_with fail
    go_quiet (fail)
    have JQ : Hid (((W.alloc (.cells #[.int .i64 1, .string ⟨sp.toArray⟩, .string ⟨lo.toArray⟩, .slice A n cap, .string ⟨tx.toArray⟩] 41)).drewN nq).heap[W.heap.size]? = some (.cells #[.int .i64 1, .string ⟨sp.toArray⟩, .string ⟨lo.toArray⟩, .slice A n cap, .string ⟨tx.toArray⟩] 41)) := Lib.hid J0.out.2
    have HQ2 : Hid (((W.alloc (.cells #[.int .i64 1, .string ⟨sp.toArray⟩, .string ⟨lo.toArray⟩, .slice A n cap, .string ⟨tx.toArray⟩] 41)).drewN nq).heap[sb]? = some (.cells #[.slice A1 op.length c1, .bool root, .bool text] 238)) := Lib.hid HQ.out
    have HB2 : Hid (Below sb W ((W.alloc (.cells #[.int .i64 1, .string ⟨sp.toArray⟩, .string ⟨lo.toArray⟩, .slice A n cap, .string ⟨tx.toArray⟩] 41)).drewN nq)) := Lib.hid (below_drewN' HB0.out)
    have HO3 : Hid (OwnN ((W.alloc (.cells #[.int .i64 1, .string ⟨sp.toArray⟩, .string ⟨lo.toArray⟩, .slice A n cap, .string ⟨tx.toArray⟩] 41)).drewN nq) base (.slice A1 op.length c1) op) := Lib.hid HO2.out
    have HSZ : Hid (((W.alloc (.cells #[.int .i64 1, .string ⟨sp.toArray⟩, .string ⟨lo.toArray⟩, .slice A n cap, .string ⟨tx.toArray⟩] 41)).drewN nq).heap.size = W.heap.size + 1) := Lib.hid (by simp [World.drewN])
    clear x0 x1 x2 y0 y1 y2 z0 z1 z2 HQ HB0 HO2 J0
    generalize (W.alloc (.cells #[.int .i64 1, .string ⟨sp.toArray⟩, .string ⟨lo.toArray⟩, .slice A n cap, .string ⟨tx.toArray⟩] 41)).drewN nq = wq at *
    have x0 := cell_of 0 HQ2.out
    have x1 := cell_of 1 HQ2.out
    have x2 := cell_of 2 HQ2.out
    have y0 := free_of 0 HQ2.out
    have y1 := free_of 1 HQ2.out
    have y2 := free_of 2 HQ2.out
    have z0 := cell_of 0 JQ.out
    have z1 := cell_of 1 JQ.out
    have z2 := cell_of 2 JQ.out
    go_wp2_with fail
    have hne : W.heap.size ≠ sb := by omega
    have V0 : Hid ((wq.setCell ⟨sb, 2, none⟩ (.bool false)).heap[sb]? = some (.cells #[.slice A1 op.length c1, .bool root, .bool false] 238)) := Lib.hid (hp_set HQ2.out)
    have V1 : Hid ((wq.setCell ⟨sb, 2, none⟩ (.bool false)).heap[W.heap.size]? = some (.cells #[.int .i64 1, .string ⟨sp.toArray⟩, .string ⟨lo.toArray⟩, .slice A n cap, .string ⟨tx.toArray⟩] 41)) := Lib.hid ((hp_other hne).trans JQ.out)
    have V2 : Hid (Below sb W (wq.setCell ⟨sb, 2, none⟩ (.bool false))) := Lib.hid (HB2.out.setCell (p := ⟨sb, 2, none⟩) (Nat.le_refl _) _)
    have V3 : Hid (OwnN (wq.setCell ⟨sb, 2, none⟩ (.bool false)) base (.slice A1 op.length c1) op) := Lib.hid (ownsRow_keep HO3.out fun g hg _ => hp_other (by omega))
    have V4 : Hid ((wq.setCell ⟨sb, 2, none⟩ (.bool false)).heap.size = W.heap.size + 1) := Lib.hid (by rw [World.size_setCell]; exact HSZ.out)
    clear x0 x1 x2 y0 y1 y2 z0 z1 z2 JQ HQ2 HB2 HO3 HSZ
    generalize wq.setCell ⟨sb, 2, none⟩ (.bool false) = V at *
    have x0 := cell_of 0 V0.out
    have y0 := free_of 0 V0.out
    have y1 := free_of 1 V0.out
    have z1 := cell_of 1 V1.out
    have z2 := cell_of 2 V1.out
    have VA0 : OwnN (V.alloc (.cells #[.string ⟨sp.toArray⟩, .string ⟨lo.toArray⟩] 38)) base (.slice A1 op.length c1) op := V3.out.kept ((Below.refl V.heap.size V).alloc (Nat.le_refl _) _)
    have VA1 : Hid (OwnN (V.alloc (.cells #[.string ⟨sp.toArray⟩, .string ⟨lo.toArray⟩] 38)).drew base (.slice A1 op.length c1) op) := Lib.hid VA0
    clear VA0
    have VA2 : base ≤ (V.alloc (.cells #[.string ⟨sp.toArray⟩, .string ⟨lo.toArray⟩] 38)).drew.heap.size := by
      show base ≤ (V.alloc (.cells #[.string ⟨sp.toArray⟩, .string ⟨lo.toArray⟩] 38)).heap.size
      rw [World.size_alloc, V4.out]; omega
    have VA3 : ∀ (j : Nat) u, (cN (sp, lo))[j]? = some u → (V.alloc (.cells #[.string ⟨sp.toArray⟩, .string ⟨lo.toArray⟩] 38)).drew.cell? ((⟨V.heap.size, 0, none⟩ : Addr).add j) = some u := fun j u hu => cell_newN V (cN (sp, lo)) 38 j u hu
    have HN : ∀ v6 w6, OwnN w6 base v6 (op ++ [(sp, lo)]) → (V.alloc (.cells #[.string ⟨sp.toArray⟩, .string ⟨lo.toArray⟩] 38)).drew.grownBy w6 (Value.slice A1 op.length c1).ownBlock → ∃ A6 n6 c6, v6 = .slice A6 n6 c6 ∧ Hid (OwnN w6 base v6 (op ++ [(sp, lo)])) ∧ Hid (Below sb W w6) ∧ w6.heap[sb]? = some (.cells #[.slice A1 op.length c1, .bool root, .bool false] 238) := fun v6 w6 h6 hg => by
      obtain ⟨A6, c6, e6⟩ := h6.form
      refine ⟨A6, _, c6, e6, Lib.hid h6, Lib.hid ?_, ?_⟩
      · have h0 : Below sb W (V.alloc (.cells #[.string ⟨sp.toArray⟩, .string ⟨lo.toArray⟩] 38)).drew := below_drewN' (n := 1) (V2.out.alloc (by rw [V4.out]; omega) (.cells #[.string ⟨sp.toArray⟩, .string ⟨lo.toArray⟩] 38))
        exact h0.grown hg (by show sb ≤ (V.alloc _).heap.size; rw [World.size_alloc, V4.out]; omega) (fun j hj => by have := VA1.out.ge hj; omega)
      · rw [hg.block sb (by show sb < (V.alloc _).heap.size; rw [World.size_alloc, V4.out]; omega) (ownN_ne VA1.out hsb)]
        show (V.alloc _).heap[sb]? = _
        rw [Below.heap_alloc _ _ _ (by rw [V4.out]; omega)]
        exact V0.out
    have hop9 := HOP.out
    have xa : (V.alloc (.cells #[.string ⟨sp.toArray⟩, .string ⟨lo.toArray⟩] 38)).heap[sb]? = some (.cells #[.slice A1 op.length c1, .bool root, .bool false] 238) := by rw [Below.heap_alloc _ _ _ (by rw [V4.out]; omega)]; exact V0.out
    have xa0 := cell_of 0 xa
    clear xa
    have own9 := VA1.out
    go_region_law (refine stepAppN rfl (.tmp 40) (.tmp 43) rfl base _ op rfl own9 ⟨V.heap.size, 0, none⟩ rfl (sp, lo) VA3 hop9 VA2 ?_; intro v6 w6 h6 hg6 hat6; obtain ⟨A6, n6, c6, rfl, K6, B6, q6⟩ := HN v6 w6 h6 hg6; clear h6 hg6 hat6; have u0 := cell_of 0 q6; have u1 := cell_of 1 q6; have f0 := free_of 0 q6; have f1 := free_of 1 q6)
    all_goals
      go_wp2
      go_ret
      exact ⟨(B6.out.setCell (p := ⟨sb, 0, none⟩) (Nat.le_refl _) _).setCell (p := ⟨sb, 1, none⟩) (Nat.le_refl _) _, (fun h => by cases h), fun op' root' text' h => (by cases h; exact ⟨rfl, _, hp_set (hp_set q6), ownsRow_keep (ownsRow_keep K6.out fun g hg _ => hp_other (by omega)) fun g hg _ => hp_other (by omega)⟩)⟩
  · have _t := True.intro
    clear _t
    go_enter Tryz.func156, Tryz.ntmps156
    go_wp2_with fail
    go_quiet (fail)
    have JQ : Hid (((W.alloc (.cells #[.int .i64 1, .string ⟨sp.toArray⟩, .string ⟨lo.toArray⟩, .slice A n cap, .string ⟨tx.toArray⟩] 41)).drewN nq).heap[W.heap.size]? = some (.cells #[.int .i64 1, .string ⟨sp.toArray⟩, .string ⟨lo.toArray⟩, .slice A n cap, .string ⟨tx.toArray⟩] 41)) := Lib.hid J0.out.2
    have HQ2 : Hid (((W.alloc (.cells #[.int .i64 1, .string ⟨sp.toArray⟩, .string ⟨lo.toArray⟩, .slice A n cap, .string ⟨tx.toArray⟩] 41)).drewN nq).heap[sb]? = some (.cells #[.slice A1 op.length c1, .bool false, .bool text] 238)) := Lib.hid HQ.out
    have HB2 : Hid (Below sb W ((W.alloc (.cells #[.int .i64 1, .string ⟨sp.toArray⟩, .string ⟨lo.toArray⟩, .slice A n cap, .string ⟨tx.toArray⟩] 41)).drewN nq)) := Lib.hid (below_drewN' HB0.out)
    have HO3 : Hid (OwnN ((W.alloc (.cells #[.int .i64 1, .string ⟨sp.toArray⟩, .string ⟨lo.toArray⟩, .slice A n cap, .string ⟨tx.toArray⟩] 41)).drewN nq) base (.slice A1 op.length c1) op) := Lib.hid HO2.out
    have HSZ : Hid (((W.alloc (.cells #[.int .i64 1, .string ⟨sp.toArray⟩, .string ⟨lo.toArray⟩, .slice A n cap, .string ⟨tx.toArray⟩] 41)).drewN nq).heap.size = W.heap.size + 1) := Lib.hid (by simp [World.drewN])
    clear x0 x1 x2 y0 y1 y2 z0 z1 z2 HQ HB0 HO2 J0
    generalize (W.alloc (.cells #[.int .i64 1, .string ⟨sp.toArray⟩, .string ⟨lo.toArray⟩, .slice A n cap, .string ⟨tx.toArray⟩] 41)).drewN nq = wq at *
    have x0 := cell_of 0 HQ2.out
    have x1 := cell_of 1 HQ2.out
    have x2 := cell_of 2 HQ2.out
    have y0 := free_of 0 HQ2.out
    have y1 := free_of 1 HQ2.out
    have y2 := free_of 2 HQ2.out
    have z0 := cell_of 0 JQ.out
    have z1 := cell_of 1 JQ.out
    have z2 := cell_of 2 JQ.out
    go_wp2_with fail
    have hne : W.heap.size ≠ sb := by omega
    have V0 : Hid ((wq.setCell ⟨sb, 2, none⟩ (.bool false)).heap[sb]? = some (.cells #[.slice A1 op.length c1, .bool false, .bool false] 238)) := Lib.hid (hp_set HQ2.out)
    have V1 : Hid ((wq.setCell ⟨sb, 2, none⟩ (.bool false)).heap[W.heap.size]? = some (.cells #[.int .i64 1, .string ⟨sp.toArray⟩, .string ⟨lo.toArray⟩, .slice A n cap, .string ⟨tx.toArray⟩] 41)) := Lib.hid ((hp_other hne).trans JQ.out)
    have V2 : Hid (Below sb W (wq.setCell ⟨sb, 2, none⟩ (.bool false))) := Lib.hid (HB2.out.setCell (p := ⟨sb, 2, none⟩) (Nat.le_refl _) _)
    have V3 : Hid (OwnN (wq.setCell ⟨sb, 2, none⟩ (.bool false)) base (.slice A1 op.length c1) op) := Lib.hid (ownsRow_keep HO3.out fun g hg _ => hp_other (by omega))
    have V4 : Hid ((wq.setCell ⟨sb, 2, none⟩ (.bool false)).heap.size = W.heap.size + 1) := Lib.hid (by rw [World.size_setCell]; exact HSZ.out)
    clear x0 x1 x2 y0 y1 y2 z0 z1 z2 JQ HQ2 HB2 HO3 HSZ
    generalize wq.setCell ⟨sb, 2, none⟩ (.bool false) = V at *
    have x0 := cell_of 0 V0.out
    have y0 := free_of 0 V0.out
    have y1 := free_of 1 V0.out
    have z1 := cell_of 1 V1.out
    have z2 := cell_of 2 V1.out
    have VA0 : OwnN (V.alloc (.cells #[.string ⟨sp.toArray⟩, .string ⟨lo.toArray⟩] 38)) base (.slice A1 op.length c1) op := V3.out.kept ((Below.refl V.heap.size V).alloc (Nat.le_refl _) _)
    have VA1 : Hid (OwnN (V.alloc (.cells #[.string ⟨sp.toArray⟩, .string ⟨lo.toArray⟩] 38)).drew base (.slice A1 op.length c1) op) := Lib.hid VA0
    clear VA0
    have VA2 : base ≤ (V.alloc (.cells #[.string ⟨sp.toArray⟩, .string ⟨lo.toArray⟩] 38)).drew.heap.size := by
      show base ≤ (V.alloc (.cells #[.string ⟨sp.toArray⟩, .string ⟨lo.toArray⟩] 38)).heap.size
      rw [World.size_alloc, V4.out]; omega
    have VA3 : ∀ (j : Nat) u, (cN (sp, lo))[j]? = some u → (V.alloc (.cells #[.string ⟨sp.toArray⟩, .string ⟨lo.toArray⟩] 38)).drew.cell? ((⟨V.heap.size, 0, none⟩ : Addr).add j) = some u := fun j u hu => cell_newN V (cN (sp, lo)) 38 j u hu
    have HN : ∀ v6 w6, OwnN w6 base v6 (op ++ [(sp, lo)]) → (V.alloc (.cells #[.string ⟨sp.toArray⟩, .string ⟨lo.toArray⟩] 38)).drew.grownBy w6 (Value.slice A1 op.length c1).ownBlock → ∃ A6 n6 c6, v6 = .slice A6 n6 c6 ∧ Hid (OwnN w6 base v6 (op ++ [(sp, lo)])) ∧ Hid (Below sb W w6) ∧ w6.heap[sb]? = some (.cells #[.slice A1 op.length c1, .bool false, .bool false] 238) := fun v6 w6 h6 hg => by
      obtain ⟨A6, c6, e6⟩ := h6.form
      refine ⟨A6, _, c6, e6, Lib.hid h6, Lib.hid ?_, ?_⟩
      · have h0 : Below sb W (V.alloc (.cells #[.string ⟨sp.toArray⟩, .string ⟨lo.toArray⟩] 38)).drew := below_drewN' (n := 1) (V2.out.alloc (by rw [V4.out]; omega) (.cells #[.string ⟨sp.toArray⟩, .string ⟨lo.toArray⟩] 38))
        exact h0.grown hg (by show sb ≤ (V.alloc _).heap.size; rw [World.size_alloc, V4.out]; omega) (fun j hj => by have := VA1.out.ge hj; omega)
      · rw [hg.block sb (by show sb < (V.alloc _).heap.size; rw [World.size_alloc, V4.out]; omega) (ownN_ne VA1.out hsb)]
        show (V.alloc _).heap[sb]? = _
        rw [Below.heap_alloc _ _ _ (by rw [V4.out]; omega)]
        exact V0.out
    have hop9 := HOP.out
    have xa : (V.alloc (.cells #[.string ⟨sp.toArray⟩, .string ⟨lo.toArray⟩] 38)).heap[sb]? = some (.cells #[.slice A1 op.length c1, .bool false, .bool false] 238) := by rw [Below.heap_alloc _ _ _ (by rw [V4.out]; omega)]; exact V0.out
    have xa0 := cell_of 0 xa
    clear xa
    have own9 := VA1.out
    go_region_law (refine stepAppN rfl (.tmp 40) (.tmp 43) rfl base _ op rfl own9 ⟨V.heap.size, 0, none⟩ rfl (sp, lo) VA3 hop9 VA2 ?_; intro v6 w6 h6 hg6 hat6; obtain ⟨A6, n6, c6, rfl, K6, B6, q6⟩ := HN v6 w6 h6 hg6; clear h6 hg6 hat6; have u0 := cell_of 0 q6; have u1 := cell_of 1 q6; have f0 := free_of 0 q6; have f1 := free_of 1 q6)
    all_goals
      go_wp2
      go_ret
      exact ⟨(B6.out.setCell (p := ⟨sb, 0, none⟩) (Nat.le_refl _) _).setCell (p := ⟨sb, 1, none⟩) (Nat.le_refl _) _, (fun h => by cases h), fun op' root' text' h => (by cases h; exact ⟨rfl, _, hp_set (hp_set q6), ownsRow_keep (ownsRow_keep K6.out fun g hg _ => hp_other (by omega)) fun g hg _ => hp_other (by omega)⟩)⟩
set_option maxRecDepth 100000 in
set_option maxHeartbeats 8000000 in
theorem next3a (sb base : Nat) (sv : Value) (op : List (List UInt8 × List UInt8)) (root text : Bool) (k : Int) (sp lo tx : List UInt8) (A : Option Addr) (n cap : Nat) (W : World) (hq : W.heap[sb]? = some (.cells #[sv, .bool root, .bool text] 238)) (ho : OwnN W base sv op) (hsb : sb < base) (hbW : base ≤ W.heap.size) (hop : op.length ≤ 1000000) (hr : op = []) :
    Calls Tryz.prog 156 #[.pointer (some ⟨sb, 0, none⟩), .agg #[.int .i64 3, .string ⟨sp.toArray⟩, .string ⟨lo.toArray⟩, .slice A n cap, .string ⟨tx.toArray⟩]] W (NextPost sb base W (none)) := by
  obtain ⟨A1, c1, rfl⟩ := ho.form
  have HO := Lib.hid ho
  have HOP := Lib.hid hop
  have hsW : sb < W.heap.size := by omega
  have J0 := Lib.hid (CJ.start 41 W #[.int .i64 3, .string ⟨sp.toArray⟩, .string ⟨lo.toArray⟩, .slice A n cap, .string ⟨tx.toArray⟩])
  have HQ : Hid ((W.alloc (.cells #[.int .i64 3, .string ⟨sp.toArray⟩, .string ⟨lo.toArray⟩, .slice A n cap, .string ⟨tx.toArray⟩] 41)).heap[sb]? = some (.cells #[.slice A1 op.length c1, .bool root, .bool text] 238)) := Lib.hid (by rw [Below.heap_alloc _ _ _ hsW]; exact hq)
  have x0 := cell_of 0 HQ.out
  have x1 := cell_of 1 HQ.out
  have x2 := cell_of 2 HQ.out
  have y0 := free_of 0 HQ.out
  have y1 := free_of 1 HQ.out
  have y2 := free_of 2 HQ.out
  have z0 := cell_of 0 J0.out.2
  have z1 := cell_of 1 J0.out.2
  have z2 := cell_of 2 J0.out.2
  clear hq ho hop
  have HB0 : Hid (Below sb W (W.alloc (.cells #[.int .i64 3, .string ⟨sp.toArray⟩, .string ⟨lo.toArray⟩, .slice A n cap, .string ⟨tx.toArray⟩] 41))) := Lib.hid ((Below.refl sb W).alloc (Nat.le_of_lt hsW) _)
  have HO2 : Hid (OwnN (W.alloc (.cells #[.int .i64 3, .string ⟨sp.toArray⟩, .string ⟨lo.toArray⟩, .slice A n cap, .string ⟨tx.toArray⟩] 41)) base (.slice A1 op.length c1) op) := Lib.hid (HO.out.kept ((Below.refl _ _).alloc (Nat.le_refl _) _))
  have hz : ((op.length : Int) == 0) = true := by rw [hr]; rfl
  clear hr
  go_enter Tryz.func156, Tryz.ntmps156
  go_wp2_with fail
  go_quiet (fail)
  have JQ : Hid (((W.alloc (.cells #[.int .i64 3, .string ⟨sp.toArray⟩, .string ⟨lo.toArray⟩, .slice A n cap, .string ⟨tx.toArray⟩] 41)).drewN nq).heap[W.heap.size]? = some (.cells #[.int .i64 3, .string ⟨sp.toArray⟩, .string ⟨lo.toArray⟩, .slice A n cap, .string ⟨tx.toArray⟩] 41)) := Lib.hid J0.out.2
  have HQ2 : Hid (((W.alloc (.cells #[.int .i64 3, .string ⟨sp.toArray⟩, .string ⟨lo.toArray⟩, .slice A n cap, .string ⟨tx.toArray⟩] 41)).drewN nq).heap[sb]? = some (.cells #[.slice A1 op.length c1, .bool root, .bool text] 238)) := Lib.hid HQ.out
  have HB2 : Hid (Below sb W ((W.alloc (.cells #[.int .i64 3, .string ⟨sp.toArray⟩, .string ⟨lo.toArray⟩, .slice A n cap, .string ⟨tx.toArray⟩] 41)).drewN nq)) := Lib.hid (below_drewN' HB0.out)
  have HO3 : Hid (OwnN ((W.alloc (.cells #[.int .i64 3, .string ⟨sp.toArray⟩, .string ⟨lo.toArray⟩, .slice A n cap, .string ⟨tx.toArray⟩] 41)).drewN nq) base (.slice A1 op.length c1) op) := Lib.hid HO2.out
  have HSZ : Hid (((W.alloc (.cells #[.int .i64 3, .string ⟨sp.toArray⟩, .string ⟨lo.toArray⟩, .slice A n cap, .string ⟨tx.toArray⟩] 41)).drewN nq).heap.size = W.heap.size + 1) := Lib.hid (by simp [World.drewN])
  clear x0 x1 x2 y0 y1 y2 z0 z1 z2 HQ HB0 HO2 J0
  generalize (W.alloc (.cells #[.int .i64 3, .string ⟨sp.toArray⟩, .string ⟨lo.toArray⟩, .slice A n cap, .string ⟨tx.toArray⟩] 41)).drewN nq = wq at *
  have x0 := cell_of 0 HQ2.out
  have x1 := cell_of 1 HQ2.out
  have x2 := cell_of 2 HQ2.out
  have y0 := free_of 0 HQ2.out
  have y1 := free_of 1 HQ2.out
  have y2 := free_of 2 HQ2.out
  have z0 := cell_of 0 JQ.out
  have z1 := cell_of 1 JQ.out
  have z2 := cell_of 2 JQ.out
  go_wp2_with fail
  have hne : W.heap.size ≠ sb := by omega
  have V0 : Hid ((wq.setCell ⟨sb, 2, none⟩ (.bool true)).heap[sb]? = some (.cells #[.slice A1 op.length c1, .bool root, .bool true] 238)) := Lib.hid (hp_set HQ2.out)
  have V1 : Hid ((wq.setCell ⟨sb, 2, none⟩ (.bool true)).heap[W.heap.size]? = some (.cells #[.int .i64 3, .string ⟨sp.toArray⟩, .string ⟨lo.toArray⟩, .slice A n cap, .string ⟨tx.toArray⟩] 41)) := Lib.hid ((hp_other hne).trans JQ.out)
  have V2 : Hid (Below sb W (wq.setCell ⟨sb, 2, none⟩ (.bool true))) := Lib.hid (HB2.out.setCell (p := ⟨sb, 2, none⟩) (Nat.le_refl _) _)
  have V3 : Hid (OwnN (wq.setCell ⟨sb, 2, none⟩ (.bool true)) base (.slice A1 op.length c1) op) := Lib.hid (ownsRow_keep HO3.out fun g hg _ => hp_other (by omega))
  have V4 : Hid ((wq.setCell ⟨sb, 2, none⟩ (.bool true)).heap.size = W.heap.size + 1) := Lib.hid (by rw [World.size_setCell]; exact HSZ.out)
  clear x0 x1 x2 y0 y1 y2 z0 z1 z2 JQ HQ2 HB2 HO3 HSZ
  generalize wq.setCell ⟨sb, 2, none⟩ (.bool true) = V at *
  have x0 := cell_of 0 V0.out
  have y0 := free_of 0 V0.out
  have y1 := free_of 1 V0.out
  have z1 := cell_of 1 V1.out
  have z2 := cell_of 2 V1.out
  go_wp2
  go_ret
  exact ⟨V2.out, fun _ => rfl, fun _ _ _ h => by cases h⟩
set_option maxRecDepth 100000 in
set_option maxHeartbeats 8000000 in
theorem next3b (sb base : Nat) (sv : Value) (op : List (List UInt8 × List UInt8)) (root text : Bool) (k : Int) (sp lo tx : List UInt8) (A : Option Addr) (n cap : Nat) (W : World) (hq : W.heap[sb]? = some (.cells #[sv, .bool root, .bool text] 238)) (ho : OwnN W base sv op) (hsb : sb < base) (hbW : base ≤ W.heap.size) (hop : op.length ≤ 1000000) (hr : op ≠ []) (ht : text = true) :
    Calls Tryz.prog 156 #[.pointer (some ⟨sb, 0, none⟩), .agg #[.int .i64 3, .string ⟨sp.toArray⟩, .string ⟨lo.toArray⟩, .slice A n cap, .string ⟨tx.toArray⟩]] W (NextPost sb base W (none)) := by
  obtain ⟨A1, c1, rfl⟩ := ho.form
  have HO := Lib.hid ho
  have HOP := Lib.hid hop
  have hsW : sb < W.heap.size := by omega
  have J0 := Lib.hid (CJ.start 41 W #[.int .i64 3, .string ⟨sp.toArray⟩, .string ⟨lo.toArray⟩, .slice A n cap, .string ⟨tx.toArray⟩])
  have HQ : Hid ((W.alloc (.cells #[.int .i64 3, .string ⟨sp.toArray⟩, .string ⟨lo.toArray⟩, .slice A n cap, .string ⟨tx.toArray⟩] 41)).heap[sb]? = some (.cells #[.slice A1 op.length c1, .bool root, .bool text] 238)) := Lib.hid (by rw [Below.heap_alloc _ _ _ hsW]; exact hq)
  have x0 := cell_of 0 HQ.out
  have x1 := cell_of 1 HQ.out
  have x2 := cell_of 2 HQ.out
  have y0 := free_of 0 HQ.out
  have y1 := free_of 1 HQ.out
  have y2 := free_of 2 HQ.out
  have z0 := cell_of 0 J0.out.2
  have z1 := cell_of 1 J0.out.2
  have z2 := cell_of 2 J0.out.2
  clear hq ho hop
  have HB0 : Hid (Below sb W (W.alloc (.cells #[.int .i64 3, .string ⟨sp.toArray⟩, .string ⟨lo.toArray⟩, .slice A n cap, .string ⟨tx.toArray⟩] 41))) := Lib.hid ((Below.refl sb W).alloc (Nat.le_of_lt hsW) _)
  have HO2 : Hid (OwnN (W.alloc (.cells #[.int .i64 3, .string ⟨sp.toArray⟩, .string ⟨lo.toArray⟩, .slice A n cap, .string ⟨tx.toArray⟩] 41)) base (.slice A1 op.length c1) op) := Lib.hid (HO.out.kept ((Below.refl _ _).alloc (Nat.le_refl _) _))
  have hz : ((op.length : Int) == 0) = false := by
    cases op with
    | nil => exact absurd rfl hr
    | cons a t => simp; omega
  clear hr
  subst ht
  go_enter Tryz.func156, Tryz.ntmps156
  go_wp2_with fail
  go_quiet (fail)
  have JQ : Hid (((W.alloc (.cells #[.int .i64 3, .string ⟨sp.toArray⟩, .string ⟨lo.toArray⟩, .slice A n cap, .string ⟨tx.toArray⟩] 41)).drewN nq).heap[W.heap.size]? = some (.cells #[.int .i64 3, .string ⟨sp.toArray⟩, .string ⟨lo.toArray⟩, .slice A n cap, .string ⟨tx.toArray⟩] 41)) := Lib.hid J0.out.2
  have HQ2 : Hid (((W.alloc (.cells #[.int .i64 3, .string ⟨sp.toArray⟩, .string ⟨lo.toArray⟩, .slice A n cap, .string ⟨tx.toArray⟩] 41)).drewN nq).heap[sb]? = some (.cells #[.slice A1 op.length c1, .bool root, .bool true] 238)) := Lib.hid HQ.out
  have HB2 : Hid (Below sb W ((W.alloc (.cells #[.int .i64 3, .string ⟨sp.toArray⟩, .string ⟨lo.toArray⟩, .slice A n cap, .string ⟨tx.toArray⟩] 41)).drewN nq)) := Lib.hid (below_drewN' HB0.out)
  have HO3 : Hid (OwnN ((W.alloc (.cells #[.int .i64 3, .string ⟨sp.toArray⟩, .string ⟨lo.toArray⟩, .slice A n cap, .string ⟨tx.toArray⟩] 41)).drewN nq) base (.slice A1 op.length c1) op) := Lib.hid HO2.out
  have HSZ : Hid (((W.alloc (.cells #[.int .i64 3, .string ⟨sp.toArray⟩, .string ⟨lo.toArray⟩, .slice A n cap, .string ⟨tx.toArray⟩] 41)).drewN nq).heap.size = W.heap.size + 1) := Lib.hid (by simp [World.drewN])
  clear x0 x1 x2 y0 y1 y2 z0 z1 z2 HQ HB0 HO2 J0
  generalize (W.alloc (.cells #[.int .i64 3, .string ⟨sp.toArray⟩, .string ⟨lo.toArray⟩, .slice A n cap, .string ⟨tx.toArray⟩] 41)).drewN nq = wq at *
  have x0 := cell_of 0 HQ2.out
  have x1 := cell_of 1 HQ2.out
  have x2 := cell_of 2 HQ2.out
  have y0 := free_of 0 HQ2.out
  have y1 := free_of 1 HQ2.out
  have y2 := free_of 2 HQ2.out
  have z0 := cell_of 0 JQ.out
  have z1 := cell_of 1 JQ.out
  have z2 := cell_of 2 JQ.out
  go_wp2_with fail
  have hne : W.heap.size ≠ sb := by omega
  have V0 : Hid ((wq.setCell ⟨sb, 2, none⟩ (.bool true)).heap[sb]? = some (.cells #[.slice A1 op.length c1, .bool root, .bool true] 238)) := Lib.hid (hp_set HQ2.out)
  have V1 : Hid ((wq.setCell ⟨sb, 2, none⟩ (.bool true)).heap[W.heap.size]? = some (.cells #[.int .i64 3, .string ⟨sp.toArray⟩, .string ⟨lo.toArray⟩, .slice A n cap, .string ⟨tx.toArray⟩] 41)) := Lib.hid ((hp_other hne).trans JQ.out)
  have V2 : Hid (Below sb W (wq.setCell ⟨sb, 2, none⟩ (.bool true))) := Lib.hid (HB2.out.setCell (p := ⟨sb, 2, none⟩) (Nat.le_refl _) _)
  have V3 : Hid (OwnN (wq.setCell ⟨sb, 2, none⟩ (.bool true)) base (.slice A1 op.length c1) op) := Lib.hid (ownsRow_keep HO3.out fun g hg _ => hp_other (by omega))
  have V4 : Hid ((wq.setCell ⟨sb, 2, none⟩ (.bool true)).heap.size = W.heap.size + 1) := Lib.hid (by rw [World.size_setCell]; exact HSZ.out)
  clear x0 x1 x2 y0 y1 y2 z0 z1 z2 JQ HQ2 HB2 HO3 HSZ
  generalize wq.setCell ⟨sb, 2, none⟩ (.bool true) = V at *
  have x0 := cell_of 0 V0.out
  have y0 := free_of 0 V0.out
  have y1 := free_of 1 V0.out
  have z1 := cell_of 1 V1.out
  have z2 := cell_of 2 V1.out
  go_wp2
  go_ret
  exact ⟨V2.out, fun _ => rfl, fun _ _ _ h => by cases h⟩
set_option maxRecDepth 100000 in
set_option maxHeartbeats 8000000 in
theorem next3c (sb base : Nat) (sv : Value) (op : List (List UInt8 × List UInt8)) (root text : Bool) (k : Int) (sp lo tx : List UInt8) (A : Option Addr) (n cap : Nat) (W : World) (hq : W.heap[sb]? = some (.cells #[sv, .bool root, .bool text] 238)) (ho : OwnN W base sv op) (hsb : sb < base) (hbW : base ≤ W.heap.size) (hop : op.length ≤ 1000000) (hr : op ≠ []) (ht : text = false) :
    Calls Tryz.prog 156 #[.pointer (some ⟨sb, 0, none⟩), .agg #[.int .i64 3, .string ⟨sp.toArray⟩, .string ⟨lo.toArray⟩, .slice A n cap, .string ⟨tx.toArray⟩]] W (NextPost sb base W (some (op, root, true))) := by
  obtain ⟨A1, c1, rfl⟩ := ho.form
  have HO := Lib.hid ho
  have HOP := Lib.hid hop
  have hsW : sb < W.heap.size := by omega
  have J0 := Lib.hid (CJ.start 41 W #[.int .i64 3, .string ⟨sp.toArray⟩, .string ⟨lo.toArray⟩, .slice A n cap, .string ⟨tx.toArray⟩])
  have HQ : Hid ((W.alloc (.cells #[.int .i64 3, .string ⟨sp.toArray⟩, .string ⟨lo.toArray⟩, .slice A n cap, .string ⟨tx.toArray⟩] 41)).heap[sb]? = some (.cells #[.slice A1 op.length c1, .bool root, .bool text] 238)) := Lib.hid (by rw [Below.heap_alloc _ _ _ hsW]; exact hq)
  have x0 := cell_of 0 HQ.out
  have x1 := cell_of 1 HQ.out
  have x2 := cell_of 2 HQ.out
  have y0 := free_of 0 HQ.out
  have y1 := free_of 1 HQ.out
  have y2 := free_of 2 HQ.out
  have z0 := cell_of 0 J0.out.2
  have z1 := cell_of 1 J0.out.2
  have z2 := cell_of 2 J0.out.2
  clear hq ho hop
  have HB0 : Hid (Below sb W (W.alloc (.cells #[.int .i64 3, .string ⟨sp.toArray⟩, .string ⟨lo.toArray⟩, .slice A n cap, .string ⟨tx.toArray⟩] 41))) := Lib.hid ((Below.refl sb W).alloc (Nat.le_of_lt hsW) _)
  have HO2 : Hid (OwnN (W.alloc (.cells #[.int .i64 3, .string ⟨sp.toArray⟩, .string ⟨lo.toArray⟩, .slice A n cap, .string ⟨tx.toArray⟩] 41)) base (.slice A1 op.length c1) op) := Lib.hid (HO.out.kept ((Below.refl _ _).alloc (Nat.le_refl _) _))
  have hz : ((op.length : Int) == 0) = false := by
    cases op with
    | nil => exact absurd rfl hr
    | cons a t => simp; omega
  clear hr
  subst ht
  go_enter Tryz.func156, Tryz.ntmps156
  go_wp2_with fail
  go_quiet (fail)
  have JQ : Hid (((W.alloc (.cells #[.int .i64 3, .string ⟨sp.toArray⟩, .string ⟨lo.toArray⟩, .slice A n cap, .string ⟨tx.toArray⟩] 41)).drewN nq).heap[W.heap.size]? = some (.cells #[.int .i64 3, .string ⟨sp.toArray⟩, .string ⟨lo.toArray⟩, .slice A n cap, .string ⟨tx.toArray⟩] 41)) := Lib.hid J0.out.2
  have HQ2 : Hid (((W.alloc (.cells #[.int .i64 3, .string ⟨sp.toArray⟩, .string ⟨lo.toArray⟩, .slice A n cap, .string ⟨tx.toArray⟩] 41)).drewN nq).heap[sb]? = some (.cells #[.slice A1 op.length c1, .bool root, .bool false] 238)) := Lib.hid HQ.out
  have HB2 : Hid (Below sb W ((W.alloc (.cells #[.int .i64 3, .string ⟨sp.toArray⟩, .string ⟨lo.toArray⟩, .slice A n cap, .string ⟨tx.toArray⟩] 41)).drewN nq)) := Lib.hid (below_drewN' HB0.out)
  have HO3 : Hid (OwnN ((W.alloc (.cells #[.int .i64 3, .string ⟨sp.toArray⟩, .string ⟨lo.toArray⟩, .slice A n cap, .string ⟨tx.toArray⟩] 41)).drewN nq) base (.slice A1 op.length c1) op) := Lib.hid HO2.out
  have HSZ : Hid (((W.alloc (.cells #[.int .i64 3, .string ⟨sp.toArray⟩, .string ⟨lo.toArray⟩, .slice A n cap, .string ⟨tx.toArray⟩] 41)).drewN nq).heap.size = W.heap.size + 1) := Lib.hid (by simp [World.drewN])
  clear x0 x1 x2 y0 y1 y2 z0 z1 z2 HQ HB0 HO2 J0
  generalize (W.alloc (.cells #[.int .i64 3, .string ⟨sp.toArray⟩, .string ⟨lo.toArray⟩, .slice A n cap, .string ⟨tx.toArray⟩] 41)).drewN nq = wq at *
  have x0 := cell_of 0 HQ2.out
  have x1 := cell_of 1 HQ2.out
  have x2 := cell_of 2 HQ2.out
  have y0 := free_of 0 HQ2.out
  have y1 := free_of 1 HQ2.out
  have y2 := free_of 2 HQ2.out
  have z0 := cell_of 0 JQ.out
  have z1 := cell_of 1 JQ.out
  have z2 := cell_of 2 JQ.out
  go_wp2_with fail
  have hne : W.heap.size ≠ sb := by omega
  have V0 : Hid ((wq.setCell ⟨sb, 2, none⟩ (.bool true)).heap[sb]? = some (.cells #[.slice A1 op.length c1, .bool root, .bool true] 238)) := Lib.hid (hp_set HQ2.out)
  have V1 : Hid ((wq.setCell ⟨sb, 2, none⟩ (.bool true)).heap[W.heap.size]? = some (.cells #[.int .i64 3, .string ⟨sp.toArray⟩, .string ⟨lo.toArray⟩, .slice A n cap, .string ⟨tx.toArray⟩] 41)) := Lib.hid ((hp_other hne).trans JQ.out)
  have V2 : Hid (Below sb W (wq.setCell ⟨sb, 2, none⟩ (.bool true))) := Lib.hid (HB2.out.setCell (p := ⟨sb, 2, none⟩) (Nat.le_refl _) _)
  have V3 : Hid (OwnN (wq.setCell ⟨sb, 2, none⟩ (.bool true)) base (.slice A1 op.length c1) op) := Lib.hid (ownsRow_keep HO3.out fun g hg _ => hp_other (by omega))
  have V4 : Hid ((wq.setCell ⟨sb, 2, none⟩ (.bool true)).heap.size = W.heap.size + 1) := Lib.hid (by rw [World.size_setCell]; exact HSZ.out)
  clear x0 x1 x2 y0 y1 y2 z0 z1 z2 JQ HQ2 HB2 HO3 HSZ
  generalize wq.setCell ⟨sb, 2, none⟩ (.bool true) = V at *
  have x0 := cell_of 0 V0.out
  have y0 := free_of 0 V0.out
  have y1 := free_of 1 V0.out
  have z1 := cell_of 1 V1.out
  have z2 := cell_of 2 V1.out
  go_wp2
  go_ret
  exact ⟨V2.out, (fun h => by cases h), fun op2 root2 text2 h => (by cases h; exact ⟨rfl, _, V0.out, V3.out⟩)⟩
set_option maxRecDepth 100000 in
set_option maxHeartbeats 8000000 in
theorem next9 (sb base : Nat) (sv : Value) (op : List (List UInt8 × List UInt8)) (root text : Bool) (k : Int) (sp lo tx : List UInt8) (A : Option Addr) (n cap : Nat) (W : World) (hq : W.heap[sb]? = some (.cells #[sv, .bool root, .bool text] 238)) (ho : OwnN W base sv op) (hsb : sb < base) (hbW : base ≤ W.heap.size) (hop : op.length ≤ 1000000) (h1 : k ≠ 1) (h2 : k ≠ 2) (h3 : k ≠ 3) :
    Calls Tryz.prog 156 #[.pointer (some ⟨sb, 0, none⟩), .agg #[.int .i64 k, .string ⟨sp.toArray⟩, .string ⟨lo.toArray⟩, .slice A n cap, .string ⟨tx.toArray⟩]] W (NextPost sb base W (some (op, root, false))) := by
  obtain ⟨A1, c1, rfl⟩ := ho.form
  have HO := Lib.hid ho
  have HOP := Lib.hid hop
  have hsW : sb < W.heap.size := by omega
  have J0 := Lib.hid (CJ.start 41 W #[.int .i64 k, .string ⟨sp.toArray⟩, .string ⟨lo.toArray⟩, .slice A n cap, .string ⟨tx.toArray⟩])
  have HQ : Hid ((W.alloc (.cells #[.int .i64 k, .string ⟨sp.toArray⟩, .string ⟨lo.toArray⟩, .slice A n cap, .string ⟨tx.toArray⟩] 41)).heap[sb]? = some (.cells #[.slice A1 op.length c1, .bool root, .bool text] 238)) := Lib.hid (by rw [Below.heap_alloc _ _ _ hsW]; exact hq)
  have x0 := cell_of 0 HQ.out
  have x1 := cell_of 1 HQ.out
  have x2 := cell_of 2 HQ.out
  have y0 := free_of 0 HQ.out
  have y1 := free_of 1 HQ.out
  have y2 := free_of 2 HQ.out
  have z0 := cell_of 0 J0.out.2
  have z1 := cell_of 1 J0.out.2
  have z2 := cell_of 2 J0.out.2
  clear hq ho hop
  have HB0 : Hid (Below sb W (W.alloc (.cells #[.int .i64 k, .string ⟨sp.toArray⟩, .string ⟨lo.toArray⟩, .slice A n cap, .string ⟨tx.toArray⟩] 41))) := Lib.hid ((Below.refl sb W).alloc (Nat.le_of_lt hsW) _)
  have HO2 : Hid (OwnN (W.alloc (.cells #[.int .i64 k, .string ⟨sp.toArray⟩, .string ⟨lo.toArray⟩, .slice A n cap, .string ⟨tx.toArray⟩] 41)) base (.slice A1 op.length c1) op) := Lib.hid (HO.out.kept ((Below.refl _ _).alloc (Nat.le_refl _) _))
  have g1 : (k == 1) = false := by simpa using h1
  have g2 : (k == 2) = false := by simpa using h2
  have g3 : (k == 3) = false := by simpa using h3
  clear h1 h2 h3
  go_enter Tryz.func156, Tryz.ntmps156
  go_wp2_with fail
  go_quiet (fail)
  have JQ : Hid (((W.alloc (.cells #[.int .i64 k, .string ⟨sp.toArray⟩, .string ⟨lo.toArray⟩, .slice A n cap, .string ⟨tx.toArray⟩] 41)).drewN nq).heap[W.heap.size]? = some (.cells #[.int .i64 k, .string ⟨sp.toArray⟩, .string ⟨lo.toArray⟩, .slice A n cap, .string ⟨tx.toArray⟩] 41)) := Lib.hid J0.out.2
  have HQ2 : Hid (((W.alloc (.cells #[.int .i64 k, .string ⟨sp.toArray⟩, .string ⟨lo.toArray⟩, .slice A n cap, .string ⟨tx.toArray⟩] 41)).drewN nq).heap[sb]? = some (.cells #[.slice A1 op.length c1, .bool root, .bool text] 238)) := Lib.hid HQ.out
  have HB2 : Hid (Below sb W ((W.alloc (.cells #[.int .i64 k, .string ⟨sp.toArray⟩, .string ⟨lo.toArray⟩, .slice A n cap, .string ⟨tx.toArray⟩] 41)).drewN nq)) := Lib.hid (below_drewN' HB0.out)
  have HO3 : Hid (OwnN ((W.alloc (.cells #[.int .i64 k, .string ⟨sp.toArray⟩, .string ⟨lo.toArray⟩, .slice A n cap, .string ⟨tx.toArray⟩] 41)).drewN nq) base (.slice A1 op.length c1) op) := Lib.hid HO2.out
  have HSZ : Hid (((W.alloc (.cells #[.int .i64 k, .string ⟨sp.toArray⟩, .string ⟨lo.toArray⟩, .slice A n cap, .string ⟨tx.toArray⟩] 41)).drewN nq).heap.size = W.heap.size + 1) := Lib.hid (by simp [World.drewN])
  clear x0 x1 x2 y0 y1 y2 z0 z1 z2 HQ HB0 HO2 J0
  generalize (W.alloc (.cells #[.int .i64 k, .string ⟨sp.toArray⟩, .string ⟨lo.toArray⟩, .slice A n cap, .string ⟨tx.toArray⟩] 41)).drewN nq = wq at *
  have x0 := cell_of 0 HQ2.out
  have x1 := cell_of 1 HQ2.out
  have x2 := cell_of 2 HQ2.out
  have y0 := free_of 0 HQ2.out
  have y1 := free_of 1 HQ2.out
  have y2 := free_of 2 HQ2.out
  have z0 := cell_of 0 JQ.out
  have z1 := cell_of 1 JQ.out
  have z2 := cell_of 2 JQ.out
  go_wp2_with fail
  have hne : W.heap.size ≠ sb := by omega
  have V0 : Hid ((wq.setCell ⟨sb, 2, none⟩ (.bool false)).heap[sb]? = some (.cells #[.slice A1 op.length c1, .bool root, .bool false] 238)) := Lib.hid (hp_set HQ2.out)
  have V1 : Hid ((wq.setCell ⟨sb, 2, none⟩ (.bool false)).heap[W.heap.size]? = some (.cells #[.int .i64 k, .string ⟨sp.toArray⟩, .string ⟨lo.toArray⟩, .slice A n cap, .string ⟨tx.toArray⟩] 41)) := Lib.hid ((hp_other hne).trans JQ.out)
  have V2 : Hid (Below sb W (wq.setCell ⟨sb, 2, none⟩ (.bool false))) := Lib.hid (HB2.out.setCell (p := ⟨sb, 2, none⟩) (Nat.le_refl _) _)
  have V3 : Hid (OwnN (wq.setCell ⟨sb, 2, none⟩ (.bool false)) base (.slice A1 op.length c1) op) := Lib.hid (ownsRow_keep HO3.out fun g hg _ => hp_other (by omega))
  have V4 : Hid ((wq.setCell ⟨sb, 2, none⟩ (.bool false)).heap.size = W.heap.size + 1) := Lib.hid (by rw [World.size_setCell]; exact HSZ.out)
  clear x0 x1 x2 y0 y1 y2 z0 z1 z2 JQ HQ2 HB2 HO3 HSZ
  generalize wq.setCell ⟨sb, 2, none⟩ (.bool false) = V at *
  have x0 := cell_of 0 V0.out
  have y0 := free_of 0 V0.out
  have y1 := free_of 1 V0.out
  have z1 := cell_of 1 V1.out
  have z2 := cell_of 2 V1.out
  go_wp2
  go_ret
  exact ⟨V2.out, (fun h => by cases h), fun op2 root2 text2 h => (by cases h; exact ⟨rfl, _, V0.out, V3.out⟩)⟩
set_option maxRecDepth 100000 in
set_option maxHeartbeats 8000000 in
theorem next2a (sb base : Nat) (sv : Value) (op : List (List UInt8 × List UInt8)) (root text : Bool) (k : Int) (sp lo tx : List UInt8) (A : Option Addr) (n cap : Nat) (W : World) (hq : W.heap[sb]? = some (.cells #[sv, .bool root, .bool text] 238)) (ho : OwnN W base sv op) (hsb : sb < base) (hbW : base ≤ W.heap.size) (hop : op.length ≤ 1000000) (hr : op = []) :
    Calls Tryz.prog 156 #[.pointer (some ⟨sb, 0, none⟩), .agg #[.int .i64 2, .string ⟨sp.toArray⟩, .string ⟨lo.toArray⟩, .slice A n cap, .string ⟨tx.toArray⟩]] W (NextPost sb base W (none)) := by
  obtain ⟨A1, c1, rfl⟩ := ho.form
  have HO := Lib.hid ho
  have HOP := Lib.hid hop
  have hsW : sb < W.heap.size := by omega
  have J0 := Lib.hid (CJ.start 41 W #[.int .i64 2, .string ⟨sp.toArray⟩, .string ⟨lo.toArray⟩, .slice A n cap, .string ⟨tx.toArray⟩])
  have HQ : Hid ((W.alloc (.cells #[.int .i64 2, .string ⟨sp.toArray⟩, .string ⟨lo.toArray⟩, .slice A n cap, .string ⟨tx.toArray⟩] 41)).heap[sb]? = some (.cells #[.slice A1 op.length c1, .bool root, .bool text] 238)) := Lib.hid (by rw [Below.heap_alloc _ _ _ hsW]; exact hq)
  have x0 := cell_of 0 HQ.out
  have x1 := cell_of 1 HQ.out
  have x2 := cell_of 2 HQ.out
  have y0 := free_of 0 HQ.out
  have y1 := free_of 1 HQ.out
  have y2 := free_of 2 HQ.out
  have z0 := cell_of 0 J0.out.2
  have z1 := cell_of 1 J0.out.2
  have z2 := cell_of 2 J0.out.2
  clear hq ho hop
  have HB0 : Hid (Below sb W (W.alloc (.cells #[.int .i64 2, .string ⟨sp.toArray⟩, .string ⟨lo.toArray⟩, .slice A n cap, .string ⟨tx.toArray⟩] 41))) := Lib.hid ((Below.refl sb W).alloc (Nat.le_of_lt hsW) _)
  have HO2 : Hid (OwnN (W.alloc (.cells #[.int .i64 2, .string ⟨sp.toArray⟩, .string ⟨lo.toArray⟩, .slice A n cap, .string ⟨tx.toArray⟩] 41)) base (.slice A1 op.length c1) op) := Lib.hid (HO.out.kept ((Below.refl _ _).alloc (Nat.le_refl _) _))
  have hz : ((op.length : Int) == 0) = true := by rw [hr]; rfl
  clear hr
  go_enter Tryz.func156, Tryz.ntmps156
  go_wp2_with fail
  go_quiet (fail)
  have JQ : Hid (((W.alloc (.cells #[.int .i64 2, .string ⟨sp.toArray⟩, .string ⟨lo.toArray⟩, .slice A n cap, .string ⟨tx.toArray⟩] 41)).drewN nq).heap[W.heap.size]? = some (.cells #[.int .i64 2, .string ⟨sp.toArray⟩, .string ⟨lo.toArray⟩, .slice A n cap, .string ⟨tx.toArray⟩] 41)) := Lib.hid J0.out.2
  have HQ2 : Hid (((W.alloc (.cells #[.int .i64 2, .string ⟨sp.toArray⟩, .string ⟨lo.toArray⟩, .slice A n cap, .string ⟨tx.toArray⟩] 41)).drewN nq).heap[sb]? = some (.cells #[.slice A1 op.length c1, .bool root, .bool text] 238)) := Lib.hid HQ.out
  have HB2 : Hid (Below sb W ((W.alloc (.cells #[.int .i64 2, .string ⟨sp.toArray⟩, .string ⟨lo.toArray⟩, .slice A n cap, .string ⟨tx.toArray⟩] 41)).drewN nq)) := Lib.hid (below_drewN' HB0.out)
  have HO3 : Hid (OwnN ((W.alloc (.cells #[.int .i64 2, .string ⟨sp.toArray⟩, .string ⟨lo.toArray⟩, .slice A n cap, .string ⟨tx.toArray⟩] 41)).drewN nq) base (.slice A1 op.length c1) op) := Lib.hid HO2.out
  have HSZ : Hid (((W.alloc (.cells #[.int .i64 2, .string ⟨sp.toArray⟩, .string ⟨lo.toArray⟩, .slice A n cap, .string ⟨tx.toArray⟩] 41)).drewN nq).heap.size = W.heap.size + 1) := Lib.hid (by simp [World.drewN])
  clear x0 x1 x2 y0 y1 y2 z0 z1 z2 HQ HB0 HO2 J0
  generalize (W.alloc (.cells #[.int .i64 2, .string ⟨sp.toArray⟩, .string ⟨lo.toArray⟩, .slice A n cap, .string ⟨tx.toArray⟩] 41)).drewN nq = wq at *
  have x0 := cell_of 0 HQ2.out
  have x1 := cell_of 1 HQ2.out
  have x2 := cell_of 2 HQ2.out
  have y0 := free_of 0 HQ2.out
  have y1 := free_of 1 HQ2.out
  have y2 := free_of 2 HQ2.out
  have z0 := cell_of 0 JQ.out
  have z1 := cell_of 1 JQ.out
  have z2 := cell_of 2 JQ.out
  go_wp2_with fail
  have hne : W.heap.size ≠ sb := by omega
  have V0 : Hid ((wq.setCell ⟨sb, 2, none⟩ (.bool false)).heap[sb]? = some (.cells #[.slice A1 op.length c1, .bool root, .bool false] 238)) := Lib.hid (hp_set HQ2.out)
  have V1 : Hid ((wq.setCell ⟨sb, 2, none⟩ (.bool false)).heap[W.heap.size]? = some (.cells #[.int .i64 2, .string ⟨sp.toArray⟩, .string ⟨lo.toArray⟩, .slice A n cap, .string ⟨tx.toArray⟩] 41)) := Lib.hid ((hp_other hne).trans JQ.out)
  have V2 : Hid (Below sb W (wq.setCell ⟨sb, 2, none⟩ (.bool false))) := Lib.hid (HB2.out.setCell (p := ⟨sb, 2, none⟩) (Nat.le_refl _) _)
  have V3 : Hid (OwnN (wq.setCell ⟨sb, 2, none⟩ (.bool false)) base (.slice A1 op.length c1) op) := Lib.hid (ownsRow_keep HO3.out fun g hg _ => hp_other (by omega))
  have V4 : Hid ((wq.setCell ⟨sb, 2, none⟩ (.bool false)).heap.size = W.heap.size + 1) := Lib.hid (by rw [World.size_setCell]; exact HSZ.out)
  clear x0 x1 x2 y0 y1 y2 z0 z1 z2 JQ HQ2 HB2 HO3 HSZ
  generalize wq.setCell ⟨sb, 2, none⟩ (.bool false) = V at *
  have x0 := cell_of 0 V0.out
  have y0 := free_of 0 V0.out
  have y1 := free_of 1 V0.out
  have z1 := cell_of 1 V1.out
  have z2 := cell_of 2 V1.out
  go_wp2_with fail
  go_quiet (fail)
  go_wp2
  go_ret
  exact ⟨below_drewN' V2.out, fun _ => rfl, fun _ _ _ h => by cases h⟩
set_option maxRecDepth 100000 in
set_option maxHeartbeats 8000000 in
theorem next2b (sb base : Nat) (sv : Value) (op2 : List (List UInt8 × List UInt8))  (root text : Bool) (k : Int) (sp lo tx : List UInt8) (A : Option Addr) (n cap : Nat) (W : World) (hq : W.heap[sb]? = some (.cells #[sv, .bool root, .bool text] 238)) (ho : OwnN W base sv (op2 ++ [(sp, lo)])) (hsb : sb < base) (hbW : base ≤ W.heap.size) (hop : op2.length ≤ 1000000) :
    Calls Tryz.prog 156 #[.pointer (some ⟨sb, 0, none⟩), .agg #[.int .i64 2, .string ⟨sp.toArray⟩, .string ⟨lo.toArray⟩, .slice A n cap, .string ⟨tx.toArray⟩]] W (NextPost sb base W (some (op2, root, false))) := by
  obtain ⟨g1, c1, rfl, hc9, hg9, hgl9, _, _, _⟩ := ho.last
  have HO := Lib.hid ho
  have HOP := Lib.hid hop
  have hsW : sb < W.heap.size := by omega
  have J0 := Lib.hid (CJ.start 41 W #[.int .i64 2, .string ⟨sp.toArray⟩, .string ⟨lo.toArray⟩, .slice A n cap, .string ⟨tx.toArray⟩])
  have HQ : Hid ((W.alloc (.cells #[.int .i64 2, .string ⟨sp.toArray⟩, .string ⟨lo.toArray⟩, .slice A n cap, .string ⟨tx.toArray⟩] 41)).heap[sb]? = some (.cells #[.slice (some ⟨g1, 0, none⟩) (op2.length + 1) c1, .bool root, .bool text] 238)) := Lib.hid (by rw [Below.heap_alloc _ _ _ hsW]; exact hq)
  have x0 := cell_of 0 HQ.out
  have x1 := cell_of 1 HQ.out
  have x2 := cell_of 2 HQ.out
  have y0 := free_of 0 HQ.out
  have y1 := free_of 1 HQ.out
  have y2 := free_of 2 HQ.out
  have z0 := cell_of 0 J0.out.2
  have z1 := cell_of 1 J0.out.2
  have z2 := cell_of 2 J0.out.2
  clear hq ho hop
  have HB0 : Hid (Below sb W (W.alloc (.cells #[.int .i64 2, .string ⟨sp.toArray⟩, .string ⟨lo.toArray⟩, .slice A n cap, .string ⟨tx.toArray⟩] 41))) := Lib.hid ((Below.refl sb W).alloc (Nat.le_of_lt hsW) _)
  have HO2 : Hid (OwnN (W.alloc (.cells #[.int .i64 2, .string ⟨sp.toArray⟩, .string ⟨lo.toArray⟩, .slice A n cap, .string ⟨tx.toArray⟩] 41)) base (.slice (some ⟨g1, 0, none⟩) (op2.length + 1) c1) (op2 ++ [(sp, lo)])) := Lib.hid (HO.out.kept ((Below.refl _ _).alloc (Nat.le_refl _) _))
  have l0 : (0 : Int) ≤ (op2.length : Int) := by omega
  have l1 : (op2.length : Int) < (op2.length : Int) + 1 := by omega
  have l4 : ¬ (op2.length : Int) < 0 := by omega
  have l9 : (op2.length : Int) ≤ 1000000 := by have := HOP.out; omega
  have l2 : IntKind.i64.wrap (op2.length : Int) = (op2.length : Int) := by rw [IntKind.wrap_i64]; omega
  have hz : (((op2.length + 1 : Nat) : Int) == 0) = false := by simp; omega
  have hcut := fun (X : World) => run_cutN (w := X) (some ⟨g1, 0, none⟩) (op2.length + 1) c1 op2.length (by omega)
  go_enter Tryz.func156, Tryz.ntmps156
  go_wp2_with fail
  go_quiet (fail)
  have JQ : Hid (((W.alloc (.cells #[.int .i64 2, .string ⟨sp.toArray⟩, .string ⟨lo.toArray⟩, .slice A n cap, .string ⟨tx.toArray⟩] 41)).drewN nq).heap[W.heap.size]? = some (.cells #[.int .i64 2, .string ⟨sp.toArray⟩, .string ⟨lo.toArray⟩, .slice A n cap, .string ⟨tx.toArray⟩] 41)) := Lib.hid J0.out.2
  have HQ2 : Hid (((W.alloc (.cells #[.int .i64 2, .string ⟨sp.toArray⟩, .string ⟨lo.toArray⟩, .slice A n cap, .string ⟨tx.toArray⟩] 41)).drewN nq).heap[sb]? = some (.cells #[.slice (some ⟨g1, 0, none⟩) (op2.length + 1) c1, .bool root, .bool text] 238)) := Lib.hid HQ.out
  have HB2 : Hid (Below sb W ((W.alloc (.cells #[.int .i64 2, .string ⟨sp.toArray⟩, .string ⟨lo.toArray⟩, .slice A n cap, .string ⟨tx.toArray⟩] 41)).drewN nq)) := Lib.hid (below_drewN' HB0.out)
  have HO3 : Hid (OwnN ((W.alloc (.cells #[.int .i64 2, .string ⟨sp.toArray⟩, .string ⟨lo.toArray⟩, .slice A n cap, .string ⟨tx.toArray⟩] 41)).drewN nq) base (.slice (some ⟨g1, 0, none⟩) (op2.length + 1) c1) (op2 ++ [(sp, lo)])) := Lib.hid HO2.out
  have HSZ : Hid (((W.alloc (.cells #[.int .i64 2, .string ⟨sp.toArray⟩, .string ⟨lo.toArray⟩, .slice A n cap, .string ⟨tx.toArray⟩] 41)).drewN nq).heap.size = W.heap.size + 1) := Lib.hid (by simp [World.drewN])
  clear x0 x1 x2 y0 y1 y2 z0 z1 z2 HQ HB0 HO2 J0
  generalize (W.alloc (.cells #[.int .i64 2, .string ⟨sp.toArray⟩, .string ⟨lo.toArray⟩, .slice A n cap, .string ⟨tx.toArray⟩] 41)).drewN nq = wq at *
  have x0 := cell_of 0 HQ2.out
  have x1 := cell_of 1 HQ2.out
  have x2 := cell_of 2 HQ2.out
  have y0 := free_of 0 HQ2.out
  have y1 := free_of 1 HQ2.out
  have y2 := free_of 2 HQ2.out
  have z0 := cell_of 0 JQ.out
  have z1 := cell_of 1 JQ.out
  have z2 := cell_of 2 JQ.out
  go_wp2_with fail
  have hne : W.heap.size ≠ sb := by omega
  have V0 : Hid ((wq.setCell ⟨sb, 2, none⟩ (.bool false)).heap[sb]? = some (.cells #[.slice (some ⟨g1, 0, none⟩) (op2.length + 1) c1, .bool root, .bool false] 238)) := Lib.hid (hp_set HQ2.out)
  have V1 : Hid ((wq.setCell ⟨sb, 2, none⟩ (.bool false)).heap[W.heap.size]? = some (.cells #[.int .i64 2, .string ⟨sp.toArray⟩, .string ⟨lo.toArray⟩, .slice A n cap, .string ⟨tx.toArray⟩] 41)) := Lib.hid ((hp_other hne).trans JQ.out)
  have V2 : Hid (Below sb W (wq.setCell ⟨sb, 2, none⟩ (.bool false))) := Lib.hid (HB2.out.setCell (p := ⟨sb, 2, none⟩) (Nat.le_refl _) _)
  have V3 : Hid (OwnN (wq.setCell ⟨sb, 2, none⟩ (.bool false)) base (.slice (some ⟨g1, 0, none⟩) (op2.length + 1) c1) (op2 ++ [(sp, lo)])) := Lib.hid (ownsRow_keep HO3.out fun g hg _ => hp_other (by omega))
  have V4 : Hid ((wq.setCell ⟨sb, 2, none⟩ (.bool false)).heap.size = W.heap.size + 1) := Lib.hid (by rw [World.size_setCell]; exact HSZ.out)
  clear x0 x1 x2 y0 y1 y2 z0 z1 z2 JQ HQ2 HB2 HO3 HSZ
  generalize wq.setCell ⟨sb, 2, none⟩ (.bool false) = V at *
  have x0 := cell_of 0 V0.out
  have y0 := free_of 0 V0.out
  have y1 := free_of 1 V0.out
  have z1 := cell_of 1 V1.out
  have z2 := cell_of 2 V1.out
  have V3b := V3.out
  obtain ⟨g2, c2, e9, hd9, _, _, y8, y9, ho9⟩ := V3b.last
  injection e9 with e9 _ e7
  injection e9 with e9
  injection e9 with e9 _ _
  subst e9 e7
  have HO9 := Lib.hid ho9
  clear V3b hd9 ho9
  simp only at y8 y9
  go_wp2_with fail
  go_quiet (fail)
  have P0 : Hid ((V.drewN nq).heap[sb]? = some (.cells #[.slice (some ⟨g1, 0, none⟩) (op2.length + 1) c1, .bool root, .bool false] 238)) := Lib.hid V0.out
  have P1 : Hid (Below sb W (V.drewN nq)) := Lib.hid (below_drewN' V2.out)
  have P2 : Hid (OwnN (V.drewN nq) base (.slice (some ⟨g1, 0, none⟩) op2.length c1) op2) := Lib.hid HO9.out
  clear x0 y0 y1 z1 z2 y8 y9
  generalize V.drewN nq = VV at *
  have x0 := cell_of 0 P0.out
  have y0 := free_of 0 P0.out
  go_wp2
  go_ret
  exact ⟨P1.out.setCell (p := ⟨sb, 0, none⟩) (Nat.le_refl _) _, (fun h => by cases h), fun op' root' text' h => (by cases h; exact ⟨rfl, _, hp_set P0.out, ownsRow_keep P2.out fun g hg _ => hp_other (by omega)⟩)⟩
set_option maxRecDepth 100000 in
set_option maxHeartbeats 8000000 in
theorem next2c (sb base : Nat) (sv : Value) (op2 : List (List UInt8 × List UInt8)) (s : List UInt8 × List UInt8) (root text : Bool) (k : Int) (sp lo tx : List UInt8) (A : Option Addr) (n cap : Nat) (W : World) (hq : W.heap[sb]? = some (.cells #[sv, .bool root, .bool text] 238)) (ho : OwnN W base sv (op2 ++ [s])) (hsb : sb < base) (hbW : base ≤ W.heap.size) (hop : op2.length ≤ 1000000) (hs : s ≠ (sp, lo)) :
    Calls Tryz.prog 156 #[.pointer (some ⟨sb, 0, none⟩), .agg #[.int .i64 2, .string ⟨sp.toArray⟩, .string ⟨lo.toArray⟩, .slice A n cap, .string ⟨tx.toArray⟩]] W (NextPost sb base W (none)) := by
  obtain ⟨g1, c1, rfl, hc9, hg9, hgl9, _, _, _⟩ := ho.last
  have HO := Lib.hid ho
  have HOP := Lib.hid hop
  have hsW : sb < W.heap.size := by omega
  have J0 := Lib.hid (CJ.start 41 W #[.int .i64 2, .string ⟨sp.toArray⟩, .string ⟨lo.toArray⟩, .slice A n cap, .string ⟨tx.toArray⟩])
  have HQ : Hid ((W.alloc (.cells #[.int .i64 2, .string ⟨sp.toArray⟩, .string ⟨lo.toArray⟩, .slice A n cap, .string ⟨tx.toArray⟩] 41)).heap[sb]? = some (.cells #[.slice (some ⟨g1, 0, none⟩) (op2.length + 1) c1, .bool root, .bool text] 238)) := Lib.hid (by rw [Below.heap_alloc _ _ _ hsW]; exact hq)
  have x0 := cell_of 0 HQ.out
  have x1 := cell_of 1 HQ.out
  have x2 := cell_of 2 HQ.out
  have y0 := free_of 0 HQ.out
  have y1 := free_of 1 HQ.out
  have y2 := free_of 2 HQ.out
  have z0 := cell_of 0 J0.out.2
  have z1 := cell_of 1 J0.out.2
  have z2 := cell_of 2 J0.out.2
  clear hq ho hop
  have HB0 : Hid (Below sb W (W.alloc (.cells #[.int .i64 2, .string ⟨sp.toArray⟩, .string ⟨lo.toArray⟩, .slice A n cap, .string ⟨tx.toArray⟩] 41))) := Lib.hid ((Below.refl sb W).alloc (Nat.le_of_lt hsW) _)
  have HO2 : Hid (OwnN (W.alloc (.cells #[.int .i64 2, .string ⟨sp.toArray⟩, .string ⟨lo.toArray⟩, .slice A n cap, .string ⟨tx.toArray⟩] 41)) base (.slice (some ⟨g1, 0, none⟩) (op2.length + 1) c1) (op2 ++ [s])) := Lib.hid (HO.out.kept ((Below.refl _ _).alloc (Nat.le_refl _) _))
  have l0 : (0 : Int) ≤ (op2.length : Int) := by omega
  have l1 : (op2.length : Int) < (op2.length : Int) + 1 := by omega
  have l4 : ¬ (op2.length : Int) < 0 := by omega
  have l9 : (op2.length : Int) ≤ 1000000 := by have := HOP.out; omega
  have l2 : IntKind.i64.wrap (op2.length : Int) = (op2.length : Int) := by rw [IntKind.wrap_i64]; omega
  have hz : (((op2.length + 1 : Nat) : Int) == 0) = false := by simp; omega
  have hcut := fun (X : World) => run_cutN (w := X) (some ⟨g1, 0, none⟩) (op2.length + 1) c1 op2.length (by omega)
  go_enter Tryz.func156, Tryz.ntmps156
  go_wp2_with fail
  go_quiet (fail)
  have JQ : Hid (((W.alloc (.cells #[.int .i64 2, .string ⟨sp.toArray⟩, .string ⟨lo.toArray⟩, .slice A n cap, .string ⟨tx.toArray⟩] 41)).drewN nq).heap[W.heap.size]? = some (.cells #[.int .i64 2, .string ⟨sp.toArray⟩, .string ⟨lo.toArray⟩, .slice A n cap, .string ⟨tx.toArray⟩] 41)) := Lib.hid J0.out.2
  have HQ2 : Hid (((W.alloc (.cells #[.int .i64 2, .string ⟨sp.toArray⟩, .string ⟨lo.toArray⟩, .slice A n cap, .string ⟨tx.toArray⟩] 41)).drewN nq).heap[sb]? = some (.cells #[.slice (some ⟨g1, 0, none⟩) (op2.length + 1) c1, .bool root, .bool text] 238)) := Lib.hid HQ.out
  have HB2 : Hid (Below sb W ((W.alloc (.cells #[.int .i64 2, .string ⟨sp.toArray⟩, .string ⟨lo.toArray⟩, .slice A n cap, .string ⟨tx.toArray⟩] 41)).drewN nq)) := Lib.hid (below_drewN' HB0.out)
  have HO3 : Hid (OwnN ((W.alloc (.cells #[.int .i64 2, .string ⟨sp.toArray⟩, .string ⟨lo.toArray⟩, .slice A n cap, .string ⟨tx.toArray⟩] 41)).drewN nq) base (.slice (some ⟨g1, 0, none⟩) (op2.length + 1) c1) (op2 ++ [s])) := Lib.hid HO2.out
  have HSZ : Hid (((W.alloc (.cells #[.int .i64 2, .string ⟨sp.toArray⟩, .string ⟨lo.toArray⟩, .slice A n cap, .string ⟨tx.toArray⟩] 41)).drewN nq).heap.size = W.heap.size + 1) := Lib.hid (by simp [World.drewN])
  clear x0 x1 x2 y0 y1 y2 z0 z1 z2 HQ HB0 HO2 J0
  generalize (W.alloc (.cells #[.int .i64 2, .string ⟨sp.toArray⟩, .string ⟨lo.toArray⟩, .slice A n cap, .string ⟨tx.toArray⟩] 41)).drewN nq = wq at *
  have x0 := cell_of 0 HQ2.out
  have x1 := cell_of 1 HQ2.out
  have x2 := cell_of 2 HQ2.out
  have y0 := free_of 0 HQ2.out
  have y1 := free_of 1 HQ2.out
  have y2 := free_of 2 HQ2.out
  have z0 := cell_of 0 JQ.out
  have z1 := cell_of 1 JQ.out
  have z2 := cell_of 2 JQ.out
  go_wp2_with fail
  have hne : W.heap.size ≠ sb := by omega
  have V0 : Hid ((wq.setCell ⟨sb, 2, none⟩ (.bool false)).heap[sb]? = some (.cells #[.slice (some ⟨g1, 0, none⟩) (op2.length + 1) c1, .bool root, .bool false] 238)) := Lib.hid (hp_set HQ2.out)
  have V1 : Hid ((wq.setCell ⟨sb, 2, none⟩ (.bool false)).heap[W.heap.size]? = some (.cells #[.int .i64 2, .string ⟨sp.toArray⟩, .string ⟨lo.toArray⟩, .slice A n cap, .string ⟨tx.toArray⟩] 41)) := Lib.hid ((hp_other hne).trans JQ.out)
  have V2 : Hid (Below sb W (wq.setCell ⟨sb, 2, none⟩ (.bool false))) := Lib.hid (HB2.out.setCell (p := ⟨sb, 2, none⟩) (Nat.le_refl _) _)
  have V3 : Hid (OwnN (wq.setCell ⟨sb, 2, none⟩ (.bool false)) base (.slice (some ⟨g1, 0, none⟩) (op2.length + 1) c1) (op2 ++ [s])) := Lib.hid (ownsRow_keep HO3.out fun g hg _ => hp_other (by omega))
  have V4 : Hid ((wq.setCell ⟨sb, 2, none⟩ (.bool false)).heap.size = W.heap.size + 1) := Lib.hid (by rw [World.size_setCell]; exact HSZ.out)
  clear x0 x1 x2 y0 y1 y2 z0 z1 z2 JQ HQ2 HB2 HO3 HSZ
  generalize wq.setCell ⟨sb, 2, none⟩ (.bool false) = V at *
  have x0 := cell_of 0 V0.out
  have y0 := free_of 0 V0.out
  have y1 := free_of 1 V0.out
  have z1 := cell_of 1 V1.out
  have z2 := cell_of 2 V1.out
  have V3b := V3.out
  obtain ⟨g2, c2, e9, hd9, _, _, y8, y9, ho9⟩ := V3b.last
  injection e9 with e9 _ e7
  injection e9 with e9
  injection e9 with e9 _ _
  subst e9 e7
  have HO9 := Lib.hid ho9
  clear V3b hd9 ho9
  obtain ⟨s1, s2⟩ := s
  simp only at y8 y9
  by_cases hc1 : s1 = sp
  · have hc2 : s2 ≠ lo := fun e => hs (by rw [hc1, e])
    subst hc1
    have hcmp : (s2 == lo) = false := by simpa using hc2
    clear hs hc2
    go_wp2_with fail
    go_quiet (fail)
    go_wp2
    go_ret
    exact ⟨below_drewN' V2.out, fun _ => rfl, fun _ _ _ h => by cases h⟩
  · have hcmp : (s1 == sp) = false := by simpa using hc1
    clear hs hc1
    go_wp2_with fail
    go_quiet (fail)
    go_wp2
    go_ret
    exact ⟨below_drewN' V2.out, fun _ => rfl, fun _ _ _ h => by cases h⟩
end Go.Proofs.YthihkbcdihochaaGreatDoor
