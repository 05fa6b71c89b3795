import Derived.Test.YtnbfmbkglkjhmaaPmY
import Derived.Laws.Rows
set_option linter.unusedSimpArgs false
set_option linter.unusedVariables false
set_option linter.unusedSectionVars false
namespace Go.Proofs.Ytnbfmbkglkjhmaa
open Go.Conc Go.RowKit Go.Pmp

/-- w' is w with these blocks more. -/
structure Ext (w : World) (l : List Obj) (w' : World) : Prop where
  tape : w'.tape = w.tape
  os : w'.os = w.os
  output : w'.output = w.output
  heap : w'.heap = w.heap ++ l.toArray
theorem Ext.refl (w : World) : Ext w [] w := ⟨rfl, rfl, rfl, by simp⟩
theorem Ext.at {w : World} {l : List Obj} {w' : World} (h : Ext w l w') (d : Nat) : Ext w l (w'.at d) := ⟨h.tape, h.os, h.output, h.heap⟩
theorem Ext.alloc {w : World} {l : List Obj} {w' : World} (h : Ext w l w') (o : Obj) : Ext w (l ++ [o]) (w'.alloc o) := ⟨h.tape, h.os, h.output, by simp [World.alloc, h.heap]⟩
theorem Ext.size {w : World} {l : List Obj} {w' : World} (h : Ext w l w') : w'.heap.size = w.heap.size + l.length := by rw [h.heap]; simp
theorem Ext.get {w : World} {l : List Obj} {w' : World} (h : Ext w l w') (i : Nat) : w'.heap[w.heap.size + i]? = l[i]? := by
  rw [h.heap, Array.getElem?_append_right (by omega)]; simp
theorem Ext.old {w : World} {l : List Obj} {w' : World} (h : Ext w l w') {k : Nat} (hk : k < w.heap.size) : w'.heap[k]? = w.heap[k]? := by
  rw [h.heap, Array.getElem?_append_left hk]
theorem Ext.cell {w : World} {l : List Obj} {w' : World} (h : Ext w l w') (i : Nat) {c : Array Value} {t : TypeId} {f : Nat × Nat} (hl : l[i]? = some (.cells c t f)) (n : Nat) : w'.cell? ⟨w.heap.size + i, n, none⟩ = c[n]? := by
  simp only [World.cell?, h.get i, hl, Option.isSome, Bool.false_eq_true, if_false]
theorem Ext.froz {w : World} {l : List Obj} {w' : World} (h : Ext w l w') (i : Nat) {c : Array Value} {t : TypeId} (hl : l[i]? = some (.cells c t)) (n : Nat) : w'.frozen? ⟨w.heap.size + i, n, none⟩ = false := by
  simp only [World.frozen?, h.get i, hl]
  simp
theorem Ext.set {w : World} {l : List Obj} {w' : World} (h : Ext w l w') (i : Nat) {c : Array Value} {t : TypeId} {f : Nat × Nat} (hl : l[i]? = some (.cells c t f)) (n : Nat) (v : Value) : Ext w (l.set i (.cells (c.setIfInBounds n v) t f)) (w'.setCell ⟨w.heap.size + i, n, none⟩ v) := by
  refine ⟨h.tape, h.os, h.output, ?_⟩
  have hi : i < l.length := (List.getElem?_eq_some_iff.1 hl).1
  have hg := h.get i
  rw [hl] at hg
  apply Array.ext_getElem?
  intro k
  simp only [World.setCell, Array.getElem?_modify]
  by_cases hk : w.heap.size + i = k
  · subst hk
    rw [if_pos rfl, hg, Array.getElem?_append_right (by omega)]
    simp [hi]
  · rw [if_neg hk, h.heap]
    by_cases hlt : k < w.heap.size
    · rw [Array.getElem?_append_left hlt, Array.getElem?_append_left hlt]
    · rw [Array.getElem?_append_right (by omega), Array.getElem?_append_right (by omega)]
      have : i ≠ k - w.heap.size := by omega
      simp [List.getElem?_set_ne this]

theorem infoC (t : TypeId) {n : Nat} (h : (Try.prog.info? t).map (·.bytes) = some n) : ∃ i, Try.prog.info? t = some i ∧ i.bytes = n := by
  obtain ⟨i, hi, hb⟩ := Option.map_eq_some_iff.1 h
  exact ⟨i, hi, hb⟩
theorem mkI (room : Nat) (hr : room ≤ 4096) (w : World) : (Instr.makeChan 48 (.int .i64 room)).run Try.prog w = .ok (.chan (some w.heap.size)) (w.alloc (.chan room #[] false 0 0 false)) := by
  obtain ⟨i, hi, hb⟩ := infoC 3 (n := 8) (by kernel_rfl)
  exact run_makeChan (P := Try.prog) (w := w) (e := 3) Try.underlying48 hi .i64 room (by omega) (by rw [hb]; omega)
theorem mkIe (room : Nat) (hr : room ≤ 4096) (w : World) (es : Array Event) : (Instr.makeChan 48 (.int .i64 room)).events Try.prog w es = es := by
  obtain ⟨i, hi, hb⟩ := infoC 3 (n := 8) (by kernel_rfl)
  exact events_makeChan (P := Try.prog) (w := w) (e := 3) Try.underlying48 hi .i64 room (by omega) (by rw [hb]; omega) es
theorem mkS (w : World) : (Instr.makeChan 49 (.int .i64 0)).run Try.prog w = .ok (.chan (some w.heap.size)) (w.alloc (.chan 0 #[] false 0 0 false)) := by
  obtain ⟨i, hi, hb⟩ := infoC 54 (n := 0) (by kernel_rfl)
  simpa using run_makeChan (P := Try.prog) (w := w) (e := 54) Try.underlying49 hi .i64 0 (by omega) (by rw [hb]; omega)
theorem mkSe (w : World) (es : Array Event) : (Instr.makeChan 49 (.int .i64 0)).events Try.prog w es = es := by
  obtain ⟨i, hi, hb⟩ := infoC 54 (n := 0) (by kernel_rfl)
  simpa using events_makeChan (P := Try.prog) (w := w) (e := 54) Try.underlying49 hi .i64 0 (by omega) (by rw [hb]; omega) es
theorem mkD (w : World) : (Instr.makeChan 50 (.int .i64 1)).run Try.prog w = .ok (.chan (some w.heap.size)) (w.alloc (.chan 1 #[] false 0 0 false)) := by
  obtain ⟨i, hi, hb⟩ := infoC 26 (n := 8) (by kernel_rfl)
  simpa using run_makeChan (P := Try.prog) (w := w) (e := 26) Try.underlying50 hi .i64 1 (by omega) (by rw [hb]; omega)
theorem mkDe (w : World) (es : Array Event) : (Instr.makeChan 50 (.int .i64 1)).events Try.prog w es = es := by
  obtain ⟨i, hi, hb⟩ := infoC 26 (n := 8) (by kernel_rfl)
  simpa using events_makeChan (P := Try.prog) (w := w) (e := 26) Try.underlying50 hi .i64 1 (by omega) (by rw [hb]; omega) es
end Go.Proofs.Ytnbfmbkglkjhmaa
