import Derived.Test.YtnbfmbkglkjhmaaPmZj
set_option linter.unusedSimpArgs false
set_option linter.unusedVariables false
set_option linter.unusedSectionVars false
namespace Go.Proofs.Ytnbfmbkglkjhmaa
open Go.Conc Go.RowKit Go.Pmp
noncomputable def body9 : Code := Try.f9.body.getD .skip
theorem f9_body : Try.f9.body = some body9 := by simp only [body9, Try.f9, Option.getD_some]
noncomputable def body11 : Code := Try.f11.body.getD .skip
theorem f11_body : Try.f11.body = some body11 := by simp only [body11, Try.f11, Option.getD_some]
theorem size30 : (Try.prog.info? 30).map (·.size) = some 3 := by kernel_rfl
theorem ld30 {w : World} {g : Nat} {v0 v1 v2 : Value} (hg : w.heap[g]? = some (.cells #[v0, v1, v2] 30)) : (loadVar 30 ⟨g, 0, none⟩).run Try.prog w = .ok (.agg #[v0, v1, v2]) w :=
  run_loadVar_row w g 30 30 #[v0, v1, v2] _ _ hg Try.underlying30 rfl size30
theorem ld30e {w : World} {g : Nat} {v0 v1 v2 : Value} (hg : w.heap[g]? = some (.cells #[v0, v1, v2] 30)) : ∀ e ∈ (loadVar 30 ⟨g, 0, none⟩).events Try.prog w #[], ∃ ad, e.loc = .cell ad ∧ e.write = false ∧ ad.block = g := by
  intro e he
  obtain ⟨i, hi, hs⟩ := Option.map_eq_some_iff.1 size30
  have hagg : (isAgg 30).run Try.prog w = .ok true w := by
    unfold isAgg
    rw [Sem.run_bind, run_underlying Try.underlying30 w]
    rfl
  have hagge : ∀ es, (isAgg 30).events Try.prog w es = es := by
    intro es
    unfold isAgg
    simp [run_underlying Try.underlying30]
  have hc : ∀ j, j < 3 → (w.cell? ((⟨g, 0, none⟩ : Addr).add (0 + j))).isSome := by
    intro j hj
    have : (⟨g, 0, none⟩ : Addr).add (0 + j) = ⟨g, j, none⟩ := by unfold Addr.add; split <;> simp_all
    rw [this]
    simp only [World.cell?, hg]
    rcases j with _ | _ | _ | j <;> simp
    omega
  simp [loadVar, hagg, hagge, sizeOf, typeInfo, hi, hs, loadCells] at he
  rcases events_loadCellsFrom_at (P := Try.prog) ⟨g, 0, none⟩ (· = g) rfl 3 0 #[] w #[] hc e (by simpa using he) with h | ⟨ad, h1, h2, h3⟩
  · simp at h
  · exact ⟨ad, h1, h2, h3⟩
theorem st30 {w : World} {g : Nat} {o0 o1 o2 v0 v1 v2 : Value} (hg : w.heap[g]? = some (.cells #[o0, o1, o2] 30)) (h1 : (#[v0, v1, v2] : Array Value).all (·.oneCell') = true) : (storeVar 30 ⟨g, 0, none⟩ (.agg #[v0, v1, v2])).run Try.prog w = .ok () (w.setRow g #[v0, v1, v2]) :=
  run_storeVar_row w g 30 30 #[o0, o1, o2] #[v0, v1, v2] hg size30 rfl h1
theorem st30e {w : World} {g : Nat} {o0 o1 o2 v0 v1 v2 : Value} (hg : w.heap[g]? = some (.cells #[o0, o1, o2] 30)) (h1 : (#[v0, v1, v2] : Array Value).all (·.oneCell') = true) : ∀ e ∈ (storeVar 30 ⟨g, 0, none⟩ (.agg #[v0, v1, v2])).events Try.prog w #[], ∃ ad, e.loc = .cell ad ∧ ad.block = g := by
  intro e he
  obtain ⟨i, hi, hs⟩ := Option.map_eq_some_iff.1 size30
  simp [storeVar, sizeOf, typeInfo, hi, hs, Value.cells] at he
  rcases events_storeCells_at (P := Try.prog) g 0 30 [v0, v1, v2] 0 #[o0, o1, o2] w #[] hg (by simp) (fun v hv => (Array.all_eq_true_iff_forall_mem.1 h1) v (by simpa using hv)) e (by simpa using he) with h | h
  · simp at h
  · exact h
theorem ev_load30 {w : World} {a : Act} {o : Oper} {x : Operand} {g : Nat} {v0 v1 v2 : Value} (ho : o.op = .load 30 x) (hx : a.eval x = .pointer (some ⟨g, 0, none⟩)) (hl : (loadVar 30 ⟨g, 0, none⟩).run Try.prog w = .ok (.agg #[v0, v1, v2]) w) {e : Event} (he : e ∈ (execOp a.eval o).events Try.prog w #[]) : e ∈ (loadVar 30 ⟨g, 0, none⟩).events Try.prog w #[] := by
  unfold execOp at he
  simp only [ho, hx, Instr.loadAt, Instr.sureAddr, Sem.events_bind, Sem.run_pure, Sem.events_pure, Sem.run_bind, Result.evThen_ok, Result.andThen_ok, hl] at he
  exact he
theorem ev_store30 {w : World} {a : Act} {o : Oper} {x y : Operand} {g : Nat} {v0 v1 v2 : Value} {w' : World} (ho : o.op = .store 30 x y) (hx : a.eval x = .pointer (some ⟨g, 0, none⟩)) (hy : a.eval y = .agg #[v0, v1, v2]) (hl : (storeVar 30 ⟨g, 0, none⟩ (.agg #[v0, v1, v2])).run Try.prog w = .ok () w') {e : Event} (he : e ∈ (execOp a.eval o).events Try.prog w #[]) : e ∈ (storeVar 30 ⟨g, 0, none⟩ (.agg #[v0, v1, v2])).events Try.prog w #[] := by
  unfold execOp at he
  simp only [ho, hx, hy, Instr.storeAt, Instr.sureAddr, Sem.events_bind, Sem.run_pure, Sem.events_pure, Sem.run_bind, Result.evThen_ok, Result.andThen_ok, hl] at he
  exact he

theorem setRow_other (w : World) (g : Nat) (cs : Array Value) {k : Nat} (h : g ≠ k) : (w.setRow g cs).heap[k]? = w.heap[k]? := by simp [World.setRow, Array.getElem?_modify, h]
theorem setRow_size (w : World) (g : Nat) (cs : Array Value) : (w.setRow g cs).heap.size = w.heap.size := by simp [World.setRow]
theorem grownBy_setRow (w : World) (g : Nat) (cs : Array Value) : w.grownBy (w.setRow g cs) (some g) := ⟨rfl, rfl, rfl, by rw [setRow_size]; exact Nat.le_refl _, fun k _ h => setRow_other _ _ _ (fun e => h (by rw [e]))⟩
theorem grownBy_set3 (w : World) (g : Nat) (x y z : Value) : w.grownBy (((w.setCell ⟨g, 0, none⟩ x).setCell ⟨g, 1, none⟩ y).setCell ⟨g, 2, none⟩ z) (some g) :=
  ⟨rfl, rfl, rfl, by simp [World.setCell], fun k _ h => by
    have hk : g ≠ k := fun e => h (by rw [e])
    rw [heap_setCell _ _ _ (by exact hk), heap_setCell _ _ _ (by exact hk), heap_setCell _ _ _ (by exact hk)]⟩
noncomputable def draw9 : Code := match body9 with | .seq _ (.seq _ (.seq _ y)) => y | c => c
theorem OpC_of {P : Program} {R : World → World → Prop} {D : World → World → Array Event → Prop} {fn : FuncId} {ops : Array Oper} {i : Nat} {o : Oper} {K : Act → World → Prop} {a : Act} {w : World} (ho : ops[i]? = some o) (hw : Region.wanted o (yielded ops a.tmps) = true)
    (h : ∀ w₁, R w w₁ → ∀ K' : Act → World → Prop, (∀ a' w', D w₁ w' (listed P fn a o w₁) ∧ K a' w' → K' a' w') → uponK o a K' ((execOp a.eval o).run P w₁)) : OpC P R D fn ops i K a w := by
  unfold OpC
  rw [ho]
  simp only [hw, if_true]
  exact fun w₁ h₁ => h w₁ h₁ _ fun _ _ x => x
/-- w' is w, grown by blocks of one's own, but for what the maker turned. -/
structure ExtM (Z : Nat → Prop) (ci cd : Nat) (P : World → Prop) (w : World) (l : List Obj) (w' : World) : Prop where
  later : Later Z ci cd w w'
  size : w'.heap.size = w.heap.size + l.length
  get : ∀ i, i < l.length → w'.heap[w.heap.size + i]? = l[i]?
  keep : P w'
section
variable {Z : Nat → Prop} {ci cd : Nat} {P : World → Prop} {w w' w'' : World} {l : List Obj}
theorem ExtM.refl (Z : Nat → Prop) (ci cd : Nat) (w : World) (hp : P w) : ExtM Z ci cd P w [] w := ⟨Later.refl _ _ _ _, rfl, fun i h => absurd h (by simp), hp⟩
theorem ExtM.rm (h : ExtM Z ci cd P w l w') (hci : ci < w.heap.size) (hcd : cd < w.heap.size) (hz : ∀ k, Z k → k < w.heap.size) (r : RMx Z ci cd w' w'') (hp : P w'') : ExtM Z ci cd P w l w'' :=
  ⟨h.later.trans r.later, r.size.trans h.size, fun i hi => (r.block _ (by omega) (by omega) (fun h => by have := hz _ h; omega)).trans (h.get i hi), hp⟩
theorem ExtM.alloc (h : ExtM Z ci cd P w l w') (hPk : ∀ a b : World, a.heap.size ≤ b.heap.size → (∀ k, k < w.heap.size → b.heap[k]? = a.heap[k]?) → P a → P b) (o : Obj) : ExtM Z ci cd P w (l ++ [o]) (w'.alloc o) := by
  refine ⟨h.later.trans (Later.alloc _ _ _ _ _), by simp [h.size]; omega, fun i hi => ?_, hPk _ _ (by simp) (fun k hk => Below.heap_alloc _ _ _ (by rw [h.size]; omega)) h.keep⟩
  by_cases e : i < l.length
  · rw [Below.heap_alloc _ _ _ (by rw [h.size]; omega), h.get i e, List.getElem?_append_left e]
  · have e2 : i = l.length := by simp at hi; omega
    subst e2
    have := heap_alloc_new w' o
    rw [h.size] at this
    rw [this]; simp
theorem ExtM.set (h : ExtM Z ci cd P w l w') (hPk : ∀ a b : World, a.heap.size ≤ b.heap.size → (∀ k, k < w.heap.size → b.heap[k]? = a.heap[k]?) → P a → P b) (i : Nat) {c : Array Value} {t : TypeId} {f : Nat × Nat} (hl : l[i]? = some (.cells c t f)) (n : Nat) (v : Value) : ExtM Z ci cd P w (l.set i (.cells (c.setIfInBounds n v) t f)) (w'.setCell ⟨w.heap.size + i, n, none⟩ v) := by
  have hi : i < l.length := (List.getElem?_eq_some_iff.1 hl).1
  refine ⟨⟨h.later.tape, h.later.os, h.later.output, by simpa [World.setCell] using h.later.size, fun k hk h1 h2 h3 => (heap_setCell _ _ _ (by show w.heap.size + i ≠ k; omega)).trans (h.later.block k hk h1 h2 h3)⟩, by simp [World.setCell, h.size], fun k hk => ?_, hPk _ _ (by simp [World.setCell]) (fun k hk => heap_setCell _ _ _ (by show w.heap.size + i ≠ k; omega)) h.keep⟩
  simp at hk
  by_cases e : i = k
  · subst e
    have hg := (h.get i hi).trans hl
    simp only [World.setCell, Array.getElem?_modify, if_pos, hg]
    simp [hi]
  · rw [heap_setCell _ _ _ (by show w.heap.size + i ≠ w.heap.size + k; omega), h.get k hk, List.getElem?_set_ne e]
theorem ExtM.cell (h : ExtM Z ci cd P w l w') (i : Nat) {c : Array Value} {t : TypeId} {f : Nat × Nat} (hl : l[i]? = some (.cells c t f)) (n : Nat) : w'.cell? ⟨w.heap.size + i, n, none⟩ = c[n]? := by
  simp only [World.cell?, h.get i (List.getElem?_eq_some_iff.1 hl).1, hl, Option.isSome, Bool.false_eq_true, if_false]
theorem ExtM.froz (h : ExtM Z ci cd P w l w') (i : Nat) {c : Array Value} {t : TypeId} (hl : l[i]? = some (.cells c t)) (n : Nat) : w'.frozen? ⟨w.heap.size + i, n, none⟩ = false := by
  simp only [World.frozen?, h.get i (List.getElem?_eq_some_iff.1 hl).1, hl]
  simp
end
theorem Ev.leaveR {P : Program} {main : Bool} {R : World → World → Prop} {D : World → World → Array Event → Prop} {Ok : Event → Prop} {Stop : GW} (T : Quiet R D Ok) {b : Frame} {a : Act} {cs : List Frame} {w : World} {fn : Func} {todo : List Item} {c : Frame} {v : Value} (hn : b.kind = .normal) (hd : a.defers = []) (hf : P.funcs[b.fn]? = some fn)
    (hr : ∀ w₁, R w w₁ → (results fn a.tmps).run P w₁ = .ok v w₁ ∧ ∀ e ∈ (results fn a.tmps).events P w₁ #[], Ok e) (h : Ev P main R D Stop (G (c.finish v) cs) w) :
    Ev P main R D Stop (G { b.at a todo with mode := .returning } (c :: cs)) w :=
  .go rfl fun w₁ h₁ => by
    obtain ⟨h1, h2⟩ := hr w₁ h₁
    have e : stepG P main (G { b.at a todo with mode := .returning } (c :: cs)) w₁ = .go (G (c.finish v) cs) w₁ (seen P b.fn ((results fn a.tmps).events P w₁ #[])) := by
      simp [G, stepG, unwind, doReturn, Frame.at, hn, hd, hf, h1, GStep.after]
    rw [e]
    exact ⟨T.read _ _ (fun e he => h2 e (mem_seen he)), h.rely T.trans h₁⟩
theorem args9 (p : Value) : (#[p] ++ Array.replicate (Try.f9.ntmps - (#[p] : Array Value).size) undef : Array Value) = #[p, undef, undef, undef, undef, undef, undef, undef, undef, undef, undef, undef, undef, undef, undef, undef, undef, undef, undef, undef, undef, undef, undef, undef, undef, undef, undef, undef, undef] := by rw [Try.ntmps9]; walk_nrm
theorem args11 (p : Value) : (#[p] ++ Array.replicate (Try.f11.ntmps - (#[p] : Array Value).size) undef : Array Value) = #[p, undef, undef, undef, undef, undef, undef, undef, undef] := by rw [Try.ntmps11]; walk_nrm

section
variable {Z : Nat → Prop} {ci cs cd N : Nat} {C : Addr → Prop} {R : World → World → Prop} {D : World → World → Array Event → Prop} {Ok : Event → Prop} {Stop : GW} (M : MainD Z ci cs cd N C R D Ok) {b : Frame} {a : Act} {ops : Array Oper} {ii : Nat} {rest : List Nat} {kk : List Item} {cs0 : List Frame} {w : World}
include M
theorem MainD.free (hN : N ≤ w.heap.size) (h1 : ci < N) (h2 : cs < N) (h3 : cd < N) : ∀ k, w.heap.size ≤ k → k ≠ ci ∧ k ≠ cs ∧ k ≠ cd ∧ ¬ Z k ∧ ∀ a, C a → a.block ≠ k :=
  fun k hk => ⟨by omega, by omega, by omega, fun h => by have := M.zb k h; omega, fun a ha e => by have := M.cb a ha; omega⟩
set_option maxRecDepth 100000 in
set_option maxHeartbeats 4000000 in
theorem rstop_over (hN : N ≤ w.heap.size) (h1 : ci < N) (h2 : cs < N) (h3 : cd < N) {sp : Option Addr} {len cap : Nat} {at0 : Nat} {P : World → Prop} (hP : P w) (hPR : ∀ a b : World, R a b → P a → P b) (hPk : ∀ a b : World, a.heap.size ≤ b.heap.size → (∀ k, k < w.heap.size → b.heap[k]? = a.heap[k]?) → P a → P b) (h : ∀ w', Later Z ci cd w w' → w'.heap.size = w.heap.size + 2 → P w' → Ev Try.prog true R D Stop (G (b.at (a.put ((ops[ii]?).bind (·.dst)) (.tuple #[.agg #[.slice sp len cap, .int .i64 at0, .bool true], .int .i64 14])) (.inRegion ops rest :: kk)) cs0) w') :
    Ev Try.prog true R D Stop (G ((base 11).at ⟨#[.agg #[.slice sp len cap, .int .i64 at0, .bool true], undef, undef, undef, undef, undef, undef, undef, undef], []⟩ [.code body11]) (b.at a (.inRegion ops (ii :: rest) :: kk) :: cs0)) w := by
  have T := M.T
  have hfr := M.free hN h1 h2 h3
  have hci : ci < w.heap.size := by omega
  have hcd : cd < w.heap.size := by omega
  have hz : ∀ k, Z k → k < w.heap.size := fun k hk => by have := M.zb k hk; omega
  suffices hs : ∀ W0, ExtM Z ci cd P w [] W0 → Ev Try.prog true R D Stop (G ((base 11).at ⟨#[.agg #[.slice sp len cap, .int .i64 at0, .bool true], undef, undef, undef, undef, undef, undef, undef, undef], []⟩ [.code body11]) (b.at a (.inRegion ops (ii :: rest) :: kk) :: cs0)) W0 from hs w (ExtM.refl _ _ _ w hP)
  intro W0 X0
  simp only [body11, Try.f11, Option.getD_some]
  refine Ev.seq T ?_
  refine Ev.region T ?_
  simp only [List.size_toArray, List.length_cons, List.length_nil, Nat.reduceAdd, Nat.zero_add, List.range, List.range.loop]
  refine Ev.turn rfl rfl (by decide) (fun w₁ h₁ K' hK' => ?_)
  have Y := X0.rm hci hcd hz (M.rm _ _ h₁) (hPR _ _ h₁ X0.keep)
  clear h₁
  go_simp
  refine hK' _ _ (M.alloc _ _ _ (by rw [Y.size]; omega) (fun e he => by have hm := mem_listed he; simp [go_sem] at hm)) ?_
  clear hK' K'
  try walk_nrm
  have hs : w₁.heap.size = w.heap.size := Y.size
  try simp only [hs]
  have X1 : ExtM Z ci cd P w [.cells #[.slice sp len cap, .int .i64 at0, .bool true] 30] _ := Y.alloc hPk (.cells #[.slice sp len cap, .int .i64 at0, .bool true] 30)
  generalize w₁.alloc (.cells #[.slice sp len cap, .int .i64 at0, .bool true] 30) = W1 at X1 ⊢
  clear hs Y w₁
  refine Ev.turn rfl rfl (by decide) (fun w₁ h₁ K' hK' => ?_)
  have Y := X1.rm hci hcd hz (M.rm _ _ h₁) (hPR _ _ h₁ X1.keep)
  clear h₁
  go_simp
  refine hK' _ _ (M.alloc _ _ _ (by rw [Y.size]; omega) (fun e he => by have hm := mem_listed he; simp [go_sem] at hm)) ?_
  clear hK' K'
  try walk_nrm
  have hs : w₁.heap.size = (w.heap.size + 1) := Y.size
  try simp only [hs]
  have X2 : ExtM Z ci cd P w [.cells #[.slice sp len cap, .int .i64 at0, .bool true] 30, .cells #[.slice none 0 0, .int .i64 0, .bool false] 30] _ := Y.alloc hPk (.cells #[.slice none 0 0, .int .i64 0, .bool false] 30)
  generalize w₁.alloc (.cells #[.slice none 0 0, .int .i64 0, .bool false] 30) = W2 at X2 ⊢
  clear hs Y w₁
  refine Ev.still T rfl rfl (by decide) (fun w₁ h₁ K' hK' => ?_)
  go_simp
  refine hK' _ (T.read _ _ (fun e he => by have hm := mem_listed he; simp [go_sem] at hm)) ?_
  clear hK' K' h₁ w₁
  try walk_nrm
  refine Ev.regionEnd T ?_
  refine Ev.seq T ?_
  refine Ev.seq T ?_
  refine Ev.region T ?_
  simp only [List.size_toArray, List.length_cons, List.length_nil, Nat.reduceAdd, Nat.zero_add, List.range, List.range.loop]
  refine Ev.still T rfl rfl (by decide) (fun w₁ h₁ K' hK' => ?_)
  go_simp
  refine hK' _ (T.read _ _ (fun e he => by have hm := mem_listed he; simp [go_sem] at hm)) ?_
  clear hK' K' h₁ w₁
  try walk_nrm
  refine Ev.still T rfl rfl (by decide) (fun w₁ h₁ K' hK' => ?_)
  have hf0 : w₁.cell? ⟨w.heap.size, 2, none⟩ = some (.bool true) := (X2.rm hci hcd hz (M.rm _ _ h₁) (hPR _ _ h₁ X2.keep)).cell 0 rfl 2
  go_simp
  refine hK' _ (T.read _ _ (fun e he => by have hm := mem_listed he; simp [go_sem, hf0] at hm; subst hm; exact M.acc _ _ _ (hfr _ (by first | exact Nat.le_refl _ | exact Nat.le_add_right _ _)).2.2.2.1 (fun h => by cases h))) ?_
  clear hK' K' hf0 h₁ w₁
  try walk_nrm
  refine Ev.regionEnd T ?_
  refine Ev.cond T true rfl ?_
  simp only [if_true, if_false, Bool.false_eq_true, ↓reduceIte]
  refine Ev.seq T ?_
  refine Ev.region T ?_
  simp only [List.size_toArray, List.length_cons, List.length_nil, Nat.reduceAdd, Nat.zero_add, List.range, List.range.loop]
  refine Ev.still T rfl rfl (by decide) (fun w₁ h₁ K' hK' => ?_)
  have hg0 : w₁.heap[w.heap.size]? = some (.cells #[.slice sp len cap, .int .i64 at0, .bool true] 30) := (X2.rm hci hcd hz (M.rm _ _ h₁) (hPR _ _ h₁ X2.keep)).get 0 (by simp)
  have hl0 := ld30 hg0
  have hl1 := ld30e hg0
  have hq0 : w₁.cell? ⟨w.heap.size, 0, none⟩ = some (.slice sp len cap) := by simp [World.cell?, hg0]
  have hq1 : w₁.cell? ⟨w.heap.size, 1, none⟩ = some (.int .i64 at0) := by simp [World.cell?, hg0]
  have hq2 : w₁.cell? ⟨w.heap.size, 2, none⟩ = some (.bool true) := by simp [World.cell?, hg0]
  go_simp
  refine hK' _ (T.read _ _ (fun e he => by obtain ⟨x, h2, h3, h4⟩ := hl1 e (ev_load30 rfl rfl hl0 (mem_listed he)); obtain ⟨loc, wr, sy⟩ := e; cases h2; exact M.acc _ _ _ (hfr _ (by omega)).2.2.2.1 (fun h => by cases h.symm.trans h3))) ?_
  clear hK' K' hg0 hl0 hl1 hq0 hq1 hq2 h₁ w₁
  try walk_nrm
  refine Ev.turn rfl rfl (by decide) (fun w₁ h₁ K' hK' => ?_)
  have Y := X2.rm hci hcd hz (M.rm _ _ h₁) (hPR _ _ h₁ X2.keep)
  clear h₁
  have hg0 : w₁.heap[(w.heap.size + 1)]? = some (.cells #[.slice none 0 0, .int .i64 0, .bool false] 30) := Y.get 1 (by simp)
  have hst := st30 (v0 := .slice sp len cap) (v1 := .int .i64 at0) (v2 := .bool true) hg0 (by simp [Value.oneCell'])
  have hse := st30e (v0 := .slice sp len cap) (v1 := .int .i64 at0) (v2 := .bool true) hg0 (by simp [Value.oneCell'])
  have hq0 : w₁.cell? ⟨w.heap.size + 1, 0, none⟩ = some (.slice none 0 0) := by simp [World.cell?, hg0]
  have hq1 : w₁.cell? ⟨w.heap.size + 1, 1, none⟩ = some (.int .i64 0) := by simp [World.cell?, hg0]
  have hq2 : w₁.cell? ⟨w.heap.size + 1, 2, none⟩ = some (.bool false) := by simp [World.cell?, hg0]
  have hp0 : w₁.frozen? ⟨w.heap.size + 1, 0, none⟩ = false := by simp [World.frozen?, hg0]
  have hp1 : w₁.frozen? ⟨w.heap.size + 1, 1, none⟩ = false := by simp [World.frozen?, hg0]
  have hp2 : w₁.frozen? ⟨w.heap.size + 1, 2, none⟩ = false := by simp [World.frozen?, hg0]
  go_simp
  have hfi := hfr (w.heap.size + 1) (by first | exact Nat.le_refl _ | exact Nat.le_add_right _ _)
  refine hK' _ _ (M.grow _ _ (some (w.heap.size + 1)) _ (by rw [Y.size]; omega) (grownBy_set3 _ _ _ _ _) (fun k hk => by cases hk; exact hfi) (fun e he => by obtain ⟨x, h2, h3⟩ := hse e (ev_store30 rfl rfl rfl hst (mem_listed he)); obtain ⟨loc, wr, sy⟩ := e; cases h2; have hq := hfr x.block (by omega); exact M.acc _ _ _ hq.2.2.2.1 (fun _ h => hq.2.2.2.2 _ h rfl))) ?_
  clear hK' K' hg0 hst hse hfi hq0 hq1 hq2 hp0 hp1 hp2
  try walk_nrm
  have X3 : ExtM Z ci cd P w [.cells #[.slice sp len cap, .int .i64 at0, .bool true] 30, .cells #[.slice sp len cap, .int .i64 at0, .bool true] 30] _ := ((Y.set hPk 1 rfl 0 (.slice sp len cap)).set hPk 1 rfl 1 (.int .i64 at0)).set hPk 1 rfl 2 (.bool true)
  generalize ((w₁.setCell ⟨w.heap.size + 1, 0, none⟩ (.slice sp len cap)).setCell ⟨w.heap.size + 1, 1, none⟩ (.int .i64 at0)).setCell ⟨w.heap.size + 1, 2, none⟩ (.bool true) = W3 at X3 ⊢
  clear Y w₁
  refine Ev.still T rfl rfl (by decide) (fun w₁ h₁ K' hK' => ?_)
  go_simp
  refine hK' _ (T.read _ _ (fun e he => by have hm := mem_listed he; simp [go_sem] at hm)) ?_
  clear hK' K' h₁ w₁
  try walk_nrm
  refine Ev.regionEnd T ?_
  refine Ev.ret T ?_
  refine Ev.leaveR T (v := .tuple #[.agg #[.slice sp len cap, .int .i64 at0, .bool true], .int .i64 14]) (fn := Try.f11) rfl rfl Try.func11 (fun w₁ h₁ => ?_) ?_
  · have hg0 : w₁.heap[(w.heap.size + 1)]? = some (.cells #[.slice sp len cap, .int .i64 at0, .bool true] 30) := (X3.rm hci hcd hz (M.rm _ _ h₁) (hPR _ _ h₁ X3.keep)).get 1 (by simp)
    have hl0 := ld30 hg0
    have hl1 := ld30e hg0
    have hre : Try.f11.results = Try.f11.results := rfl
    refine ⟨by simp [results, Try.f11, asAddr, hl0], fun e he => ?_⟩
    simp [results, Try.f11, asAddr, hl0] at he
    obtain ⟨x, h2, h3, h4⟩ := hl1 e he
    obtain ⟨loc, wr, sy⟩ := e
    cases h2
    exact M.acc _ _ _ (hfr _ (by omega)).2.2.2.1 (fun h => by cases h.symm.trans h3)
  · rw [Frame.finish_at]
    exact h _ X3.later X3.size X3.keep
set_option maxRecDepth 100000 in
set_option maxHeartbeats 4000000 in
theorem rstop_not (hN : N ≤ w.heap.size) (h1 : ci < N) (h2 : cs < N) (h3 : cd < N) {sp : Option Addr} {len cap : Nat} {at0 : Nat} {P : World → Prop} (hP : P w) (hPR : ∀ a b : World, R a b → P a → P b) (hPk : ∀ a b : World, a.heap.size ≤ b.heap.size → (∀ k, k < w.heap.size → b.heap[k]? = a.heap[k]?) → P a → P b) (h : ∀ w', Later Z ci cd w w' → w'.heap.size = w.heap.size + 2 → P w' → Ev Try.prog true R D Stop (G (b.at (a.put ((ops[ii]?).bind (·.dst)) (.tuple #[.agg #[.slice sp len cap, .int .i64 at0, .bool true], .int .i64 0])) (.inRegion ops rest :: kk)) cs0) w') :
    Ev Try.prog true R D Stop (G ((base 11).at ⟨#[.agg #[.slice sp len cap, .int .i64 at0, .bool false], undef, undef, undef, undef, undef, undef, undef, undef], []⟩ [.code body11]) (b.at a (.inRegion ops (ii :: rest) :: kk) :: cs0)) w := by
  have T := M.T
  have hfr := M.free hN h1 h2 h3
  have hci : ci < w.heap.size := by omega
  have hcd : cd < w.heap.size := by omega
  have hz : ∀ k, Z k → k < w.heap.size := fun k hk => by have := M.zb k hk; omega
  suffices hs : ∀ W0, ExtM Z ci cd P w [] W0 → Ev Try.prog true R D Stop (G ((base 11).at ⟨#[.agg #[.slice sp len cap, .int .i64 at0, .bool false], undef, undef, undef, undef, undef, undef, undef, undef], []⟩ [.code body11]) (b.at a (.inRegion ops (ii :: rest) :: kk) :: cs0)) W0 from hs w (ExtM.refl _ _ _ w hP)
  intro W0 X0
  simp only [body11, Try.f11, Option.getD_some]
  refine Ev.seq T ?_
  refine Ev.region T ?_
  simp only [List.size_toArray, List.length_cons, List.length_nil, Nat.reduceAdd, Nat.zero_add, List.range, List.range.loop]
  refine Ev.turn rfl rfl (by decide) (fun w₁ h₁ K' hK' => ?_)
  have Y := X0.rm hci hcd hz (M.rm _ _ h₁) (hPR _ _ h₁ X0.keep)
  clear h₁
  go_simp
  refine hK' _ _ (M.alloc _ _ _ (by rw [Y.size]; omega) (fun e he => by have hm := mem_listed he; simp [go_sem] at hm)) ?_
  clear hK' K'
  try walk_nrm
  have hs : w₁.heap.size = w.heap.size := Y.size
  try simp only [hs]
  have X1 : ExtM Z ci cd P w [.cells #[.slice sp len cap, .int .i64 at0, .bool false] 30] _ := Y.alloc hPk (.cells #[.slice sp len cap, .int .i64 at0, .bool false] 30)
  generalize w₁.alloc (.cells #[.slice sp len cap, .int .i64 at0, .bool false] 30) = W1 at X1 ⊢
  clear hs Y w₁
  refine Ev.turn rfl rfl (by decide) (fun w₁ h₁ K' hK' => ?_)
  have Y := X1.rm hci hcd hz (M.rm _ _ h₁) (hPR _ _ h₁ X1.keep)
  clear h₁
  go_simp
  refine hK' _ _ (M.alloc _ _ _ (by rw [Y.size]; omega) (fun e he => by have hm := mem_listed he; simp [go_sem] at hm)) ?_
  clear hK' K'
  try walk_nrm
  have hs : w₁.heap.size = (w.heap.size + 1) := Y.size
  try simp only [hs]
  have X2 : ExtM Z ci cd P w [.cells #[.slice sp len cap, .int .i64 at0, .bool false] 30, .cells #[.slice none 0 0, .int .i64 0, .bool false] 30] _ := Y.alloc hPk (.cells #[.slice none 0 0, .int .i64 0, .bool false] 30)
  generalize w₁.alloc (.cells #[.slice none 0 0, .int .i64 0, .bool false] 30) = W2 at X2 ⊢
  clear hs Y w₁
  refine Ev.still T rfl rfl (by decide) (fun w₁ h₁ K' hK' => ?_)
  go_simp
  refine hK' _ (T.read _ _ (fun e he => by have hm := mem_listed he; simp [go_sem] at hm)) ?_
  clear hK' K' h₁ w₁
  try walk_nrm
  refine Ev.regionEnd T ?_
  refine Ev.seq T ?_
  refine Ev.seq T ?_
  refine Ev.region T ?_
  simp only [List.size_toArray, List.length_cons, List.length_nil, Nat.reduceAdd, Nat.zero_add, List.range, List.range.loop]
  refine Ev.still T rfl rfl (by decide) (fun w₁ h₁ K' hK' => ?_)
  go_simp
  refine hK' _ (T.read _ _ (fun e he => by have hm := mem_listed he; simp [go_sem] at hm)) ?_
  clear hK' K' h₁ w₁
  try walk_nrm
  refine Ev.still T rfl rfl (by decide) (fun w₁ h₁ K' hK' => ?_)
  have hf0 : w₁.cell? ⟨w.heap.size, 2, none⟩ = some (.bool false) := (X2.rm hci hcd hz (M.rm _ _ h₁) (hPR _ _ h₁ X2.keep)).cell 0 rfl 2
  go_simp
  refine hK' _ (T.read _ _ (fun e he => by have hm := mem_listed he; simp [go_sem, hf0] at hm; subst hm; exact M.acc _ _ _ (hfr _ (by first | exact Nat.le_refl _ | exact Nat.le_add_right _ _)).2.2.2.1 (fun h => by cases h))) ?_
  clear hK' K' hf0 h₁ w₁
  try walk_nrm
  refine Ev.regionEnd T ?_
  refine Ev.cond T false rfl ?_
  simp only [if_true, if_false, Bool.false_eq_true, ↓reduceIte]
  refine Ev.skip T ?_
  refine Ev.seq T ?_
  refine Ev.region T ?_
  simp only [List.size_toArray, List.length_cons, List.length_nil, Nat.reduceAdd, Nat.zero_add, List.range, List.range.loop]
  refine Ev.still T rfl rfl (by decide) (fun w₁ h₁ K' hK' => ?_)
  go_simp
  refine hK' _ (T.read _ _ (fun e he => by have hm := mem_listed he; simp [go_sem] at hm)) ?_
  clear hK' K' h₁ w₁
  try walk_nrm
  refine Ev.turn rfl rfl (by decide) (fun w₁ h₁ K' hK' => ?_)
  have Y := X2.rm hci hcd hz (M.rm _ _ h₁) (hPR _ _ h₁ X2.keep)
  clear h₁
  have hf0 : w₁.cell? ⟨w.heap.size, 2, none⟩ = some (.bool false) := Y.cell 0 rfl 2
  have hf1 : w₁.frozen? ⟨w.heap.size, 2, none⟩ = false := Y.froz 0 rfl 2
  have hes := fun es => events_store Try.prog w₁ es ⟨w.heap.size, 2, none⟩ (.bool true) .plain rfl
  go_simp
  have hfi := hfr w.heap.size (by first | exact Nat.le_refl _ | exact Nat.le_add_right _ _)
  refine hK' _ _ (M.set _ _ _ _ hfi.1 hfi.2.1 hfi.2.2.1 (fun h => hfi.2.2.2.2 _ h rfl) hfi.2.2.2.1 (fun e he => by have hm := mem_listed he; simp [go_sem, hes, hf0, hf1, storedEv] at hm; subst hm; exact M.acc _ _ _ hfi.2.2.2.1 (fun _ h => hfi.2.2.2.2 _ h rfl))) ?_
  clear hK' K' hf0 hf1 hes hfi
  try walk_nrm
  have X3 : ExtM Z ci cd P w [.cells #[.slice sp len cap, .int .i64 at0, .bool true] 30, .cells #[.slice none 0 0, .int .i64 0, .bool false] 30] _ := Y.set hPk 0 rfl 2 (.bool true)
  generalize w₁.setCell ⟨w.heap.size, 2, none⟩ (.bool true) = W3 at X3 ⊢
  clear Y w₁
  refine Ev.regionEnd T ?_
  refine Ev.seq T ?_
  refine Ev.region T ?_
  simp only [List.size_toArray, List.length_cons, List.length_nil, Nat.reduceAdd, Nat.zero_add, List.range, List.range.loop]
  refine Ev.still T rfl rfl (by decide) (fun w₁ h₁ K' hK' => ?_)
  have hg0 : w₁.heap[w.heap.size]? = some (.cells #[.slice sp len cap, .int .i64 at0, .bool true] 30) := (X3.rm hci hcd hz (M.rm _ _ h₁) (hPR _ _ h₁ X3.keep)).get 0 (by simp)
  have hl0 := ld30 hg0
  have hl1 := ld30e hg0
  have hq0 : w₁.cell? ⟨w.heap.size, 0, none⟩ = some (.slice sp len cap) := by simp [World.cell?, hg0]
  have hq1 : w₁.cell? ⟨w.heap.size, 1, none⟩ = some (.int .i64 at0) := by simp [World.cell?, hg0]
  have hq2 : w₁.cell? ⟨w.heap.size, 2, none⟩ = some (.bool true) := by simp [World.cell?, hg0]
  go_simp
  refine hK' _ (T.read _ _ (fun e he => by obtain ⟨x, h2, h3, h4⟩ := hl1 e (ev_load30 rfl rfl hl0 (mem_listed he)); obtain ⟨loc, wr, sy⟩ := e; cases h2; exact M.acc _ _ _ (hfr _ (by omega)).2.2.2.1 (fun h => by cases h.symm.trans h3))) ?_
  clear hK' K' hg0 hl0 hl1 hq0 hq1 hq2 h₁ w₁
  try walk_nrm
  refine Ev.turn rfl rfl (by decide) (fun w₁ h₁ K' hK' => ?_)
  have Y := X3.rm hci hcd hz (M.rm _ _ h₁) (hPR _ _ h₁ X3.keep)
  clear h₁
  have hg0 : w₁.heap[(w.heap.size + 1)]? = some (.cells #[.slice none 0 0, .int .i64 0, .bool false] 30) := Y.get 1 (by simp)
  have hst := st30 (v0 := .slice sp len cap) (v1 := .int .i64 at0) (v2 := .bool true) hg0 (by simp [Value.oneCell'])
  have hse := st30e (v0 := .slice sp len cap) (v1 := .int .i64 at0) (v2 := .bool true) hg0 (by simp [Value.oneCell'])
  have hq0 : w₁.cell? ⟨w.heap.size + 1, 0, none⟩ = some (.slice none 0 0) := by simp [World.cell?, hg0]
  have hq1 : w₁.cell? ⟨w.heap.size + 1, 1, none⟩ = some (.int .i64 0) := by simp [World.cell?, hg0]
  have hq2 : w₁.cell? ⟨w.heap.size + 1, 2, none⟩ = some (.bool false) := by simp [World.cell?, hg0]
  have hp0 : w₁.frozen? ⟨w.heap.size + 1, 0, none⟩ = false := by simp [World.frozen?, hg0]
  have hp1 : w₁.frozen? ⟨w.heap.size + 1, 1, none⟩ = false := by simp [World.frozen?, hg0]
  have hp2 : w₁.frozen? ⟨w.heap.size + 1, 2, none⟩ = false := by simp [World.frozen?, hg0]
  go_simp
  have hfi := hfr (w.heap.size + 1) (by first | exact Nat.le_refl _ | exact Nat.le_add_right _ _)
  refine hK' _ _ (M.grow _ _ (some (w.heap.size + 1)) _ (by rw [Y.size]; omega) (grownBy_set3 _ _ _ _ _) (fun k hk => by cases hk; exact hfi) (fun e he => by obtain ⟨x, h2, h3⟩ := hse e (ev_store30 rfl rfl rfl hst (mem_listed he)); obtain ⟨loc, wr, sy⟩ := e; cases h2; have hq := hfr x.block (by omega); exact M.acc _ _ _ hq.2.2.2.1 (fun _ h => hq.2.2.2.2 _ h rfl))) ?_
  clear hK' K' hg0 hst hse hfi hq0 hq1 hq2 hp0 hp1 hp2
  try walk_nrm
  have X4 : ExtM Z ci cd P w [.cells #[.slice sp len cap, .int .i64 at0, .bool true] 30, .cells #[.slice sp len cap, .int .i64 at0, .bool true] 30] _ := ((Y.set hPk 1 rfl 0 (.slice sp len cap)).set hPk 1 rfl 1 (.int .i64 at0)).set hPk 1 rfl 2 (.bool true)
  generalize ((w₁.setCell ⟨w.heap.size + 1, 0, none⟩ (.slice sp len cap)).setCell ⟨w.heap.size + 1, 1, none⟩ (.int .i64 at0)).setCell ⟨w.heap.size + 1, 2, none⟩ (.bool true) = W4 at X4 ⊢
  clear Y w₁
  refine Ev.still T rfl rfl (by decide) (fun w₁ h₁ K' hK' => ?_)
  go_simp
  refine hK' _ (T.read _ _ (fun e he => by have hm := mem_listed he; simp [go_sem] at hm)) ?_
  clear hK' K' h₁ w₁
  try walk_nrm
  refine Ev.regionEnd T ?_
  refine Ev.ret T ?_
  refine Ev.leaveR T (v := .tuple #[.agg #[.slice sp len cap, .int .i64 at0, .bool true], .int .i64 0]) (fn := Try.f11) rfl rfl Try.func11 (fun w₁ h₁ => ?_) ?_
  · have hg0 : w₁.heap[(w.heap.size + 1)]? = some (.cells #[.slice sp len cap, .int .i64 at0, .bool true] 30) := (X4.rm hci hcd hz (M.rm _ _ h₁) (hPR _ _ h₁ X4.keep)).get 1 (by simp)
    have hl0 := ld30 hg0
    have hl1 := ld30e hg0
    have hre : Try.f11.results = Try.f11.results := rfl
    refine ⟨by simp [results, Try.f11, asAddr, hl0], fun e he => ?_⟩
    simp [results, Try.f11, asAddr, hl0] at he
    obtain ⟨x, h2, h3, h4⟩ := hl1 e he
    obtain ⟨loc, wr, sy⟩ := e
    cases h2
    exact M.acc _ _ _ (hfr _ (by omega)).2.2.2.1 (fun h => by cases h.symm.trans h3)
  · rw [Frame.finish_at]
    exact h _ X4.later X4.size X4.keep
set_option maxRecDepth 100000 in
set_option maxHeartbeats 4000000 in
theorem rnext_over (hN : N ≤ w.heap.size) (h1 : ci < N) (h2 : cs < N) (h3 : cd < N) {sp : Option Addr} {len cap : Nat} {at0 : Nat} {P : World → Prop} (hP : P w) (hPR : ∀ a b : World, R a b → P a → P b) (hPk : ∀ a b : World, a.heap.size ≤ b.heap.size → (∀ k, k < w.heap.size → b.heap[k]? = a.heap[k]?) → P a → P b) (h : ∀ w', Later Z ci cd w w' → w'.heap.size = w.heap.size + 2 → P w' → Ev Try.prog true R D Stop (G (b.at (a.put ((ops[ii]?).bind (·.dst)) (.tuple #[.agg #[.slice sp len cap, .int .i64 at0, .bool true], .int .i64 0, .bool false])) (.inRegion ops rest :: kk)) cs0) w') :
    Ev Try.prog true R D Stop (G ((base 9).at ⟨#[.agg #[.slice sp len cap, .int .i64 at0, .bool true], undef, undef, undef, undef, undef, undef, undef, undef, undef, undef, undef, undef, undef, undef, undef, undef, undef, undef, undef, undef, undef, undef, undef, undef, undef, undef, undef, undef], []⟩ [.code body9]) (b.at a (.inRegion ops (ii :: rest) :: kk) :: cs0)) w := by
  have T := M.T
  have hfr := M.free hN h1 h2 h3
  have hci : ci < w.heap.size := by omega
  have hcd : cd < w.heap.size := by omega
  have hz : ∀ k, Z k → k < w.heap.size := fun k hk => by have := M.zb k hk; omega
  suffices hs : ∀ W0, ExtM Z ci cd P w [] W0 → Ev Try.prog true R D Stop (G ((base 9).at ⟨#[.agg #[.slice sp len cap, .int .i64 at0, .bool true], undef, undef, undef, undef, undef, undef, undef, undef, undef, undef, undef, undef, undef, undef, undef, undef, undef, undef, undef, undef, undef, undef, undef, undef, undef, undef, undef, undef], []⟩ [.code body9]) (b.at a (.inRegion ops (ii :: rest) :: kk) :: cs0)) W0 from hs w (ExtM.refl _ _ _ w hP)
  intro W0 X0
  simp only [body9, Try.f9, Option.getD_some]
  refine Ev.seq T ?_
  refine Ev.region T ?_
  simp only [List.size_toArray, List.length_cons, List.length_nil, Nat.reduceAdd, Nat.zero_add, List.range, List.range.loop]
  refine Ev.turn rfl rfl (by decide) (fun w₁ h₁ K' hK' => ?_)
  have Y := X0.rm hci hcd hz (M.rm _ _ h₁) (hPR _ _ h₁ X0.keep)
  clear h₁
  go_simp
  refine hK' _ _ (M.alloc _ _ _ (by rw [Y.size]; omega) (fun e he => by have hm := mem_listed he; simp [go_sem] at hm)) ?_
  clear hK' K'
  try walk_nrm
  have hs : w₁.heap.size = w.heap.size := Y.size
  try simp only [hs]
  have X1 : ExtM Z ci cd P w [.cells #[.slice sp len cap, .int .i64 at0, .bool true] 30] _ := Y.alloc hPk (.cells #[.slice sp len cap, .int .i64 at0, .bool true] 30)
  generalize w₁.alloc (.cells #[.slice sp len cap, .int .i64 at0, .bool true] 30) = W1 at X1 ⊢
  clear hs Y w₁
  refine Ev.turn rfl rfl (by decide) (fun w₁ h₁ K' hK' => ?_)
  have Y := X1.rm hci hcd hz (M.rm _ _ h₁) (hPR _ _ h₁ X1.keep)
  clear h₁
  go_simp
  refine hK' _ _ (M.alloc _ _ _ (by rw [Y.size]; omega) (fun e he => by have hm := mem_listed he; simp [go_sem] at hm)) ?_
  clear hK' K'
  try walk_nrm
  have hs : w₁.heap.size = (w.heap.size + 1) := Y.size
  try simp only [hs]
  have X2 : ExtM Z ci cd P w [.cells #[.slice sp len cap, .int .i64 at0, .bool true] 30, .cells #[.slice none 0 0, .int .i64 0, .bool false] 30] _ := Y.alloc hPk (.cells #[.slice none 0 0, .int .i64 0, .bool false] 30)
  generalize w₁.alloc (.cells #[.slice none 0 0, .int .i64 0, .bool false] 30) = W2 at X2 ⊢
  clear hs Y w₁
  refine Ev.still T rfl rfl (by decide) (fun w₁ h₁ K' hK' => ?_)
  go_simp
  refine hK' _ (T.read _ _ (fun e he => by have hm := mem_listed he; simp [go_sem] at hm)) ?_
  clear hK' K' h₁ w₁
  try walk_nrm
  refine Ev.still T rfl rfl (by decide) (fun w₁ h₁ K' hK' => ?_)
  go_simp
  refine hK' _ (T.read _ _ (fun e he => by have hm := mem_listed he; simp [go_sem] at hm)) ?_
  clear hK' K' h₁ w₁
  try walk_nrm
  refine Ev.regionEnd T ?_
  refine Ev.seq T ?_
  refine Ev.seq T ?_
  refine Ev.region T ?_
  simp only [List.size_toArray, List.length_cons, List.length_nil, Nat.reduceAdd, Nat.zero_add, List.range, List.range.loop]
  refine Ev.still T rfl rfl (by decide) (fun w₁ h₁ K' hK' => ?_)
  go_simp
  refine hK' _ (T.read _ _ (fun e he => by have hm := mem_listed he; simp [go_sem] at hm)) ?_
  clear hK' K' h₁ w₁
  try walk_nrm
  refine Ev.still T rfl rfl (by decide) (fun w₁ h₁ K' hK' => ?_)
  have hf0 : w₁.cell? ⟨w.heap.size, 2, none⟩ = some (.bool true) := (X2.rm hci hcd hz (M.rm _ _ h₁) (hPR _ _ h₁ X2.keep)).cell 0 rfl 2
  go_simp
  refine hK' _ (T.read _ _ (fun e he => by have hm := mem_listed he; simp [go_sem, hf0] at hm; subst hm; exact M.acc _ _ _ (hfr _ (by first | exact Nat.le_refl _ | exact Nat.le_add_right _ _)).2.2.2.1 (fun h => by cases h))) ?_
  clear hK' K' hf0 h₁ w₁
  try walk_nrm
  refine Ev.still T rfl rfl (by decide) (fun w₁ h₁ K' hK' => ?_)
  go_simp
  refine hK' _ (T.read _ _ (fun e he => by have hm := mem_listed he; simp [go_sem] at hm)) ?_
  clear hK' K' h₁ w₁
  try walk_nrm
  refine Ev.unwanted T rfl rfl ?_
  try walk_nrm
  refine Ev.unwanted T rfl rfl ?_
  try walk_nrm
  refine Ev.unwanted T rfl rfl ?_
  try walk_nrm
  refine Ev.unwanted T rfl rfl ?_
  try walk_nrm
  refine Ev.unwanted T rfl rfl ?_
  try walk_nrm
  refine Ev.unwanted T rfl rfl ?_
  try walk_nrm
  refine Ev.still T rfl rfl (by decide) (fun w₁ h₁ K' hK' => ?_)
  go_simp
  refine hK' _ (T.read _ _ (fun e he => by have hm := mem_listed he; simp [go_sem] at hm)) ?_
  clear hK' K' h₁ w₁
  try walk_nrm
  refine Ev.regionEnd T ?_
  refine Ev.cond T true rfl ?_
  simp only [if_true, if_false, Bool.false_eq_true, ↓reduceIte]
  refine Ev.seq T ?_
  refine Ev.region T ?_
  simp only [List.size_toArray, List.length_cons, List.length_nil, Nat.reduceAdd, Nat.zero_add, List.range, List.range.loop]
  refine Ev.still T rfl rfl (by decide) (fun w₁ h₁ K' hK' => ?_)
  go_simp
  refine hK' _ (T.read _ _ (fun e he => by have hm := mem_listed he; simp [go_sem] at hm)) ?_
  clear hK' K' h₁ w₁
  try walk_nrm
  refine Ev.turn rfl rfl (by decide) (fun w₁ h₁ K' hK' => ?_)
  have Y := X2.rm hci hcd hz (M.rm _ _ h₁) (hPR _ _ h₁ X2.keep)
  clear h₁
  have hf0 : w₁.cell? ⟨w.heap.size, 2, none⟩ = some (.bool true) := Y.cell 0 rfl 2
  have hf1 : w₁.frozen? ⟨w.heap.size, 2, none⟩ = false := Y.froz 0 rfl 2
  have hes := fun es => events_store Try.prog w₁ es ⟨w.heap.size, 2, none⟩ (.bool true) .plain rfl
  go_simp
  have hfi := hfr w.heap.size (by first | exact Nat.le_refl _ | exact Nat.le_add_right _ _)
  refine hK' _ _ (M.set _ _ _ _ hfi.1 hfi.2.1 hfi.2.2.1 (fun h => hfi.2.2.2.2 _ h rfl) hfi.2.2.2.1 (fun e he => by have hm := mem_listed he; simp [go_sem, hes, hf0, hf1, storedEv] at hm; subst hm; exact M.acc _ _ _ hfi.2.2.2.1 (fun _ h => hfi.2.2.2.2 _ h rfl))) ?_
  clear hK' K' hf0 hf1 hes hfi
  try walk_nrm
  have X3 : ExtM Z ci cd P w [.cells #[.slice sp len cap, .int .i64 at0, .bool true] 30, .cells #[.slice none 0 0, .int .i64 0, .bool false] 30] _ := Y.set hPk 0 rfl 2 (.bool true)
  generalize w₁.setCell ⟨w.heap.size, 2, none⟩ (.bool true) = W3 at X3 ⊢
  clear Y w₁
  refine Ev.regionEnd T ?_
  refine Ev.seq T ?_
  refine Ev.region T ?_
  simp only [List.size_toArray, List.length_cons, List.length_nil, Nat.reduceAdd, Nat.zero_add, List.range, List.range.loop]
  refine Ev.still T rfl rfl (by decide) (fun w₁ h₁ K' hK' => ?_)
  have hg0 : w₁.heap[w.heap.size]? = some (.cells #[.slice sp len cap, .int .i64 at0, .bool true] 30) := (X3.rm hci hcd hz (M.rm _ _ h₁) (hPR _ _ h₁ X3.keep)).get 0 (by simp)
  have hl0 := ld30 hg0
  have hl1 := ld30e hg0
  have hq0 : w₁.cell? ⟨w.heap.size, 0, none⟩ = some (.slice sp len cap) := by simp [World.cell?, hg0]
  have hq1 : w₁.cell? ⟨w.heap.size, 1, none⟩ = some (.int .i64 at0) := by simp [World.cell?, hg0]
  have hq2 : w₁.cell? ⟨w.heap.size, 2, none⟩ = some (.bool true) := by simp [World.cell?, hg0]
  go_simp
  refine hK' _ (T.read _ _ (fun e he => by obtain ⟨x, h2, h3, h4⟩ := hl1 e (ev_load30 rfl rfl hl0 (mem_listed he)); obtain ⟨loc, wr, sy⟩ := e; cases h2; exact M.acc _ _ _ (hfr _ (by omega)).2.2.2.1 (fun h => by cases h.symm.trans h3))) ?_
  clear hK' K' hg0 hl0 hl1 hq0 hq1 hq2 h₁ w₁
  try walk_nrm
  refine Ev.turn rfl rfl (by decide) (fun w₁ h₁ K' hK' => ?_)
  have Y := X3.rm hci hcd hz (M.rm _ _ h₁) (hPR _ _ h₁ X3.keep)
  clear h₁
  have hg0 : w₁.heap[(w.heap.size + 1)]? = some (.cells #[.slice none 0 0, .int .i64 0, .bool false] 30) := Y.get 1 (by simp)
  have hst := st30 (v0 := .slice sp len cap) (v1 := .int .i64 at0) (v2 := .bool true) hg0 (by simp [Value.oneCell'])
  have hse := st30e (v0 := .slice sp len cap) (v1 := .int .i64 at0) (v2 := .bool true) hg0 (by simp [Value.oneCell'])
  have hq0 : w₁.cell? ⟨w.heap.size + 1, 0, none⟩ = some (.slice none 0 0) := by simp [World.cell?, hg0]
  have hq1 : w₁.cell? ⟨w.heap.size + 1, 1, none⟩ = some (.int .i64 0) := by simp [World.cell?, hg0]
  have hq2 : w₁.cell? ⟨w.heap.size + 1, 2, none⟩ = some (.bool false) := by simp [World.cell?, hg0]
  have hp0 : w₁.frozen? ⟨w.heap.size + 1, 0, none⟩ = false := by simp [World.frozen?, hg0]
  have hp1 : w₁.frozen? ⟨w.heap.size + 1, 1, none⟩ = false := by simp [World.frozen?, hg0]
  have hp2 : w₁.frozen? ⟨w.heap.size + 1, 2, none⟩ = false := by simp [World.frozen?, hg0]
  go_simp
  have hfi := hfr (w.heap.size + 1) (by first | exact Nat.le_refl _ | exact Nat.le_add_right _ _)
  refine hK' _ _ (M.grow _ _ (some (w.heap.size + 1)) _ (by rw [Y.size]; omega) (grownBy_set3 _ _ _ _ _) (fun k hk => by cases hk; exact hfi) (fun e he => by obtain ⟨x, h2, h3⟩ := hse e (ev_store30 rfl rfl rfl hst (mem_listed he)); obtain ⟨loc, wr, sy⟩ := e; cases h2; have hq := hfr x.block (by omega); exact M.acc _ _ _ hq.2.2.2.1 (fun _ h => hq.2.2.2.2 _ h rfl))) ?_
  clear hK' K' hg0 hst hse hfi hq0 hq1 hq2 hp0 hp1 hp2
  try walk_nrm
  have X4 : ExtM Z ci cd P w [.cells #[.slice sp len cap, .int .i64 at0, .bool true] 30, .cells #[.slice sp len cap, .int .i64 at0, .bool true] 30] _ := ((Y.set hPk 1 rfl 0 (.slice sp len cap)).set hPk 1 rfl 1 (.int .i64 at0)).set hPk 1 rfl 2 (.bool true)
  generalize ((w₁.setCell ⟨w.heap.size + 1, 0, none⟩ (.slice sp len cap)).setCell ⟨w.heap.size + 1, 1, none⟩ (.int .i64 at0)).setCell ⟨w.heap.size + 1, 2, none⟩ (.bool true) = W4 at X4 ⊢
  clear Y w₁
  refine Ev.still T rfl rfl (by decide) (fun w₁ h₁ K' hK' => ?_)
  go_simp
  refine hK' _ (T.read _ _ (fun e he => by have hm := mem_listed he; simp [go_sem] at hm)) ?_
  clear hK' K' h₁ w₁
  try walk_nrm
  refine Ev.still T rfl rfl (by decide) (fun w₁ h₁ K' hK' => ?_)
  go_simp
  refine hK' _ (T.read _ _ (fun e he => by have hm := mem_listed he; simp [go_sem] at hm)) ?_
  clear hK' K' h₁ w₁
  try walk_nrm
  refine Ev.regionEnd T ?_
  refine Ev.ret T ?_
  refine Ev.leaveR T (v := .tuple #[.agg #[.slice sp len cap, .int .i64 at0, .bool true], .int .i64 0, .bool false]) (fn := Try.f9) rfl rfl Try.func9 (fun w₁ h₁ => ?_) ?_
  · have hg0 : w₁.heap[(w.heap.size + 1)]? = some (.cells #[.slice sp len cap, .int .i64 at0, .bool true] 30) := (X4.rm hci hcd hz (M.rm _ _ h₁) (hPR _ _ h₁ X4.keep)).get 1 (by simp)
    have hl0 := ld30 hg0
    have hl1 := ld30e hg0
    have hre : Try.f9.results = Try.f9.results := rfl
    refine ⟨by simp [results, Try.f9, asAddr, hl0], fun e he => ?_⟩
    simp [results, Try.f9, asAddr, hl0] at he
    obtain ⟨x, h2, h3, h4⟩ := hl1 e he
    obtain ⟨loc, wr, sy⟩ := e
    cases h2
    exact M.acc _ _ _ (hfr _ (by omega)).2.2.2.1 (fun h => by cases h.symm.trans h3)
  · rw [Frame.finish_at]
    exact h _ X4.later X4.size X4.keep
set_option maxRecDepth 100000 in
set_option maxHeartbeats 4000000 in
theorem rnext_end (hN : N ≤ w.heap.size) (h1 : ci < N) (h2 : cs < N) (h3 : cd < N) {sp : Option Addr} {cap at0 : Nat} {P : World → Prop} (hP : P w) (hPR : ∀ a b : World, R a b → P a → P b) (hPk : ∀ a b : World, a.heap.size ≤ b.heap.size → (∀ k, k < w.heap.size → b.heap[k]? = a.heap[k]?) → P a → P b) (h : ∀ w', Later Z ci cd w w' → w'.heap.size = w.heap.size + 2 → P w' → Ev Try.prog true R D Stop (G (b.at (a.put ((ops[ii]?).bind (·.dst)) (.tuple #[.agg #[.slice sp at0 cap, .int .i64 at0, .bool true], .int .i64 0, .bool false])) (.inRegion ops rest :: kk)) cs0) w') :
    Ev Try.prog true R D Stop (G ((base 9).at ⟨#[.agg #[.slice sp at0 cap, .int .i64 at0, .bool false], undef, undef, undef, undef, undef, undef, undef, undef, undef, undef, undef, undef, undef, undef, undef, undef, undef, undef, undef, undef, undef, undef, undef, undef, undef, undef, undef, undef], []⟩ [.code body9]) (b.at a (.inRegion ops (ii :: rest) :: kk) :: cs0)) w := by
  have T := M.T
  have hfr := M.free hN h1 h2 h3
  have hci : ci < w.heap.size := by omega
  have hcd : cd < w.heap.size := by omega
  have hz : ∀ k, Z k → k < w.heap.size := fun k hk => by have := M.zb k hk; omega
  suffices hs : ∀ W0, ExtM Z ci cd P w [] W0 → Ev Try.prog true R D Stop (G ((base 9).at ⟨#[.agg #[.slice sp at0 cap, .int .i64 at0, .bool false], undef, undef, undef, undef, undef, undef, undef, undef, undef, undef, undef, undef, undef, undef, undef, undef, undef, undef, undef, undef, undef, undef, undef, undef, undef, undef, undef, undef], []⟩ [.code body9]) (b.at a (.inRegion ops (ii :: rest) :: kk) :: cs0)) W0 from hs w (ExtM.refl _ _ _ w hP)
  intro W0 X0
  simp only [body9, Try.f9, Option.getD_some]
  refine Ev.seq T ?_
  refine Ev.region T ?_
  simp only [List.size_toArray, List.length_cons, List.length_nil, Nat.reduceAdd, Nat.zero_add, List.range, List.range.loop]
  refine Ev.turn rfl rfl (by decide) (fun w₁ h₁ K' hK' => ?_)
  have Y := X0.rm hci hcd hz (M.rm _ _ h₁) (hPR _ _ h₁ X0.keep)
  clear h₁
  go_simp
  refine hK' _ _ (M.alloc _ _ _ (by rw [Y.size]; omega) (fun e he => by have hm := mem_listed he; simp [go_sem] at hm)) ?_
  clear hK' K'
  try walk_nrm
  have hs : w₁.heap.size = w.heap.size := Y.size
  try simp only [hs]
  have X1 : ExtM Z ci cd P w [.cells #[.slice sp at0 cap, .int .i64 at0, .bool false] 30] _ := Y.alloc hPk (.cells #[.slice sp at0 cap, .int .i64 at0, .bool false] 30)
  generalize w₁.alloc (.cells #[.slice sp at0 cap, .int .i64 at0, .bool false] 30) = W1 at X1 ⊢
  clear hs Y w₁
  refine Ev.turn rfl rfl (by decide) (fun w₁ h₁ K' hK' => ?_)
  have Y := X1.rm hci hcd hz (M.rm _ _ h₁) (hPR _ _ h₁ X1.keep)
  clear h₁
  go_simp
  refine hK' _ _ (M.alloc _ _ _ (by rw [Y.size]; omega) (fun e he => by have hm := mem_listed he; simp [go_sem] at hm)) ?_
  clear hK' K'
  try walk_nrm
  have hs : w₁.heap.size = (w.heap.size + 1) := Y.size
  try simp only [hs]
  have X2 : ExtM Z ci cd P w [.cells #[.slice sp at0 cap, .int .i64 at0, .bool false] 30, .cells #[.slice none 0 0, .int .i64 0, .bool false] 30] _ := Y.alloc hPk (.cells #[.slice none 0 0, .int .i64 0, .bool false] 30)
  generalize w₁.alloc (.cells #[.slice none 0 0, .int .i64 0, .bool false] 30) = W2 at X2 ⊢
  clear hs Y w₁
  refine Ev.still T rfl rfl (by decide) (fun w₁ h₁ K' hK' => ?_)
  go_simp
  refine hK' _ (T.read _ _ (fun e he => by have hm := mem_listed he; simp [go_sem] at hm)) ?_
  clear hK' K' h₁ w₁
  try walk_nrm
  refine Ev.still T rfl rfl (by decide) (fun w₁ h₁ K' hK' => ?_)
  go_simp
  refine hK' _ (T.read _ _ (fun e he => by have hm := mem_listed he; simp [go_sem] at hm)) ?_
  clear hK' K' h₁ w₁
  try walk_nrm
  refine Ev.regionEnd T ?_
  refine Ev.seq T ?_
  refine Ev.seq T ?_
  refine Ev.region T ?_
  simp only [List.size_toArray, List.length_cons, List.length_nil, Nat.reduceAdd, Nat.zero_add, List.range, List.range.loop]
  refine Ev.still T rfl rfl (by decide) (fun w₁ h₁ K' hK' => ?_)
  go_simp
  refine hK' _ (T.read _ _ (fun e he => by have hm := mem_listed he; simp [go_sem] at hm)) ?_
  clear hK' K' h₁ w₁
  try walk_nrm
  refine Ev.still T rfl rfl (by decide) (fun w₁ h₁ K' hK' => ?_)
  have hf0 : w₁.cell? ⟨w.heap.size, 2, none⟩ = some (.bool false) := (X2.rm hci hcd hz (M.rm _ _ h₁) (hPR _ _ h₁ X2.keep)).cell 0 rfl 2
  go_simp
  refine hK' _ (T.read _ _ (fun e he => by have hm := mem_listed he; simp [go_sem, hf0] at hm; subst hm; exact M.acc _ _ _ (hfr _ (by first | exact Nat.le_refl _ | exact Nat.le_add_right _ _)).2.2.2.1 (fun h => by cases h))) ?_
  clear hK' K' hf0 h₁ w₁
  try walk_nrm
  refine Ev.still T rfl rfl (by decide) (fun w₁ h₁ K' hK' => ?_)
  go_simp
  refine hK' _ (T.read _ _ (fun e he => by have hm := mem_listed he; simp [go_sem] at hm)) ?_
  clear hK' K' h₁ w₁
  try walk_nrm
  refine Ev.still T rfl rfl (by decide) (fun w₁ h₁ K' hK' => ?_)
  go_simp
  refine hK' _ (T.read _ _ (fun e he => by have hm := mem_listed he; simp [go_sem] at hm)) ?_
  clear hK' K' h₁ w₁
  try walk_nrm
  refine Ev.still T rfl rfl (by decide) (fun w₁ h₁ K' hK' => ?_)
  have hf0 : w₁.cell? ⟨w.heap.size, 1, none⟩ = some (.int .i64 at0) := (X2.rm hci hcd hz (M.rm _ _ h₁) (hPR _ _ h₁ X2.keep)).cell 0 rfl 1
  go_simp
  refine hK' _ (T.read _ _ (fun e he => by have hm := mem_listed he; simp [go_sem, hf0] at hm; subst hm; exact M.acc _ _ _ (hfr _ (by first | exact Nat.le_refl _ | exact Nat.le_add_right _ _)).2.2.2.1 (fun h => by cases h))) ?_
  clear hK' K' hf0 h₁ w₁
  try walk_nrm
  refine Ev.still T rfl rfl (by decide) (fun w₁ h₁ K' hK' => ?_)
  go_simp
  refine hK' _ (T.read _ _ (fun e he => by have hm := mem_listed he; simp [go_sem] at hm)) ?_
  clear hK' K' h₁ w₁
  try walk_nrm
  refine Ev.still T rfl rfl (by decide) (fun w₁ h₁ K' hK' => ?_)
  have hf0 : w₁.cell? ⟨w.heap.size, 0, none⟩ = some (.slice sp at0 cap) := (X2.rm hci hcd hz (M.rm _ _ h₁) (hPR _ _ h₁ X2.keep)).cell 0 rfl 0
  go_simp
  refine hK' _ (T.read _ _ (fun e he => by have hm := mem_listed he; simp [go_sem, hf0] at hm; subst hm; exact M.acc _ _ _ (hfr _ (by first | exact Nat.le_refl _ | exact Nat.le_add_right _ _)).2.2.2.1 (fun h => by cases h))) ?_
  clear hK' K' hf0 h₁ w₁
  try walk_nrm
  refine Ev.still T rfl rfl (by decide) (fun w₁ h₁ K' hK' => ?_)
  go_simp
  refine hK' _ (T.read _ _ (fun e he => by have hm := mem_listed he; simp [go_sem] at hm)) ?_
  clear hK' K' h₁ w₁
  try walk_nrm
  refine Ev.still T rfl rfl (by decide) (fun w₁ h₁ K' hK' => ?_)
  go_simp
  refine hK' _ (T.read _ _ (fun e he => by have hm := mem_listed he; simp [go_sem] at hm)) ?_
  clear hK' K' h₁ w₁
  try walk_nrm
  refine Ev.still T rfl rfl (by decide) (fun w₁ h₁ K' hK' => ?_)
  go_simp
  refine hK' _ (T.read _ _ (fun e he => by have hm := mem_listed he; simp [go_sem] at hm)) ?_
  clear hK' K' h₁ w₁
  try walk_nrm
  refine Ev.regionEnd T ?_
  refine Ev.cond T true (by simp [Act.eval]) ?_
  simp only [if_true, if_false, Bool.false_eq_true, ↓reduceIte]
  refine Ev.seq T ?_
  refine Ev.region T ?_
  simp only [List.size_toArray, List.length_cons, List.length_nil, Nat.reduceAdd, Nat.zero_add, List.range, List.range.loop]
  refine Ev.still T rfl rfl (by decide) (fun w₁ h₁ K' hK' => ?_)
  go_simp
  refine hK' _ (T.read _ _ (fun e he => by have hm := mem_listed he; simp [go_sem] at hm)) ?_
  clear hK' K' h₁ w₁
  try walk_nrm
  refine Ev.turn rfl rfl (by decide) (fun w₁ h₁ K' hK' => ?_)
  have Y := X2.rm hci hcd hz (M.rm _ _ h₁) (hPR _ _ h₁ X2.keep)
  clear h₁
  have hf0 : w₁.cell? ⟨w.heap.size, 2, none⟩ = some (.bool false) := Y.cell 0 rfl 2
  have hf1 : w₁.frozen? ⟨w.heap.size, 2, none⟩ = false := Y.froz 0 rfl 2
  have hes := fun es => events_store Try.prog w₁ es ⟨w.heap.size, 2, none⟩ (.bool true) .plain rfl
  go_simp
  have hfi := hfr w.heap.size (by first | exact Nat.le_refl _ | exact Nat.le_add_right _ _)
  refine hK' _ _ (M.set _ _ _ _ hfi.1 hfi.2.1 hfi.2.2.1 (fun h => hfi.2.2.2.2 _ h rfl) hfi.2.2.2.1 (fun e he => by have hm := mem_listed he; simp [go_sem, hes, hf0, hf1, storedEv] at hm; subst hm; exact M.acc _ _ _ hfi.2.2.2.1 (fun _ h => hfi.2.2.2.2 _ h rfl))) ?_
  clear hK' K' hf0 hf1 hes hfi
  try walk_nrm
  have X3 : ExtM Z ci cd P w [.cells #[.slice sp at0 cap, .int .i64 at0, .bool true] 30, .cells #[.slice none 0 0, .int .i64 0, .bool false] 30] _ := Y.set hPk 0 rfl 2 (.bool true)
  generalize w₁.setCell ⟨w.heap.size, 2, none⟩ (.bool true) = W3 at X3 ⊢
  clear Y w₁
  refine Ev.regionEnd T ?_
  refine Ev.seq T ?_
  refine Ev.region T ?_
  simp only [List.size_toArray, List.length_cons, List.length_nil, Nat.reduceAdd, Nat.zero_add, List.range, List.range.loop]
  refine Ev.still T rfl rfl (by decide) (fun w₁ h₁ K' hK' => ?_)
  have hg0 : w₁.heap[w.heap.size]? = some (.cells #[.slice sp at0 cap, .int .i64 at0, .bool true] 30) := (X3.rm hci hcd hz (M.rm _ _ h₁) (hPR _ _ h₁ X3.keep)).get 0 (by simp)
  have hl0 := ld30 hg0
  have hl1 := ld30e hg0
  have hq0 : w₁.cell? ⟨w.heap.size, 0, none⟩ = some (.slice sp at0 cap) := by simp [World.cell?, hg0]
  have hq1 : w₁.cell? ⟨w.heap.size, 1, none⟩ = some (.int .i64 at0) := by simp [World.cell?, hg0]
  have hq2 : w₁.cell? ⟨w.heap.size, 2, none⟩ = some (.bool true) := by simp [World.cell?, hg0]
  go_simp
  refine hK' _ (T.read _ _ (fun e he => by obtain ⟨x, h2, h3, h4⟩ := hl1 e (ev_load30 rfl rfl hl0 (mem_listed he)); obtain ⟨loc, wr, sy⟩ := e; cases h2; exact M.acc _ _ _ (hfr _ (by omega)).2.2.2.1 (fun h => by cases h.symm.trans h3))) ?_
  clear hK' K' hg0 hl0 hl1 hq0 hq1 hq2 h₁ w₁
  try walk_nrm
  refine Ev.turn rfl rfl (by decide) (fun w₁ h₁ K' hK' => ?_)
  have Y := X3.rm hci hcd hz (M.rm _ _ h₁) (hPR _ _ h₁ X3.keep)
  clear h₁
  have hg0 : w₁.heap[(w.heap.size + 1)]? = some (.cells #[.slice none 0 0, .int .i64 0, .bool false] 30) := Y.get 1 (by simp)
  have hst := st30 (v0 := .slice sp at0 cap) (v1 := .int .i64 at0) (v2 := .bool true) hg0 (by simp [Value.oneCell'])
  have hse := st30e (v0 := .slice sp at0 cap) (v1 := .int .i64 at0) (v2 := .bool true) hg0 (by simp [Value.oneCell'])
  have hq0 : w₁.cell? ⟨w.heap.size + 1, 0, none⟩ = some (.slice none 0 0) := by simp [World.cell?, hg0]
  have hq1 : w₁.cell? ⟨w.heap.size + 1, 1, none⟩ = some (.int .i64 0) := by simp [World.cell?, hg0]
  have hq2 : w₁.cell? ⟨w.heap.size + 1, 2, none⟩ = some (.bool false) := by simp [World.cell?, hg0]
  have hp0 : w₁.frozen? ⟨w.heap.size + 1, 0, none⟩ = false := by simp [World.frozen?, hg0]
  have hp1 : w₁.frozen? ⟨w.heap.size + 1, 1, none⟩ = false := by simp [World.frozen?, hg0]
  have hp2 : w₁.frozen? ⟨w.heap.size + 1, 2, none⟩ = false := by simp [World.frozen?, hg0]
  go_simp
  have hfi := hfr (w.heap.size + 1) (by first | exact Nat.le_refl _ | exact Nat.le_add_right _ _)
  refine hK' _ _ (M.grow _ _ (some (w.heap.size + 1)) _ (by rw [Y.size]; omega) (grownBy_set3 _ _ _ _ _) (fun k hk => by cases hk; exact hfi) (fun e he => by obtain ⟨x, h2, h3⟩ := hse e (ev_store30 rfl rfl rfl hst (mem_listed he)); obtain ⟨loc, wr, sy⟩ := e; cases h2; have hq := hfr x.block (by omega); exact M.acc _ _ _ hq.2.2.2.1 (fun _ h => hq.2.2.2.2 _ h rfl))) ?_
  clear hK' K' hg0 hst hse hfi hq0 hq1 hq2 hp0 hp1 hp2
  try walk_nrm
  have X4 : ExtM Z ci cd P w [.cells #[.slice sp at0 cap, .int .i64 at0, .bool true] 30, .cells #[.slice sp at0 cap, .int .i64 at0, .bool true] 30] _ := ((Y.set hPk 1 rfl 0 (.slice sp at0 cap)).set hPk 1 rfl 1 (.int .i64 at0)).set hPk 1 rfl 2 (.bool true)
  generalize ((w₁.setCell ⟨w.heap.size + 1, 0, none⟩ (.slice sp at0 cap)).setCell ⟨w.heap.size + 1, 1, none⟩ (.int .i64 at0)).setCell ⟨w.heap.size + 1, 2, none⟩ (.bool true) = W4 at X4 ⊢
  clear Y w₁
  refine Ev.still T rfl rfl (by decide) (fun w₁ h₁ K' hK' => ?_)
  go_simp
  refine hK' _ (T.read _ _ (fun e he => by have hm := mem_listed he; simp [go_sem] at hm)) ?_
  clear hK' K' h₁ w₁
  try walk_nrm
  refine Ev.still T rfl rfl (by decide) (fun w₁ h₁ K' hK' => ?_)
  go_simp
  refine hK' _ (T.read _ _ (fun e he => by have hm := mem_listed he; simp [go_sem] at hm)) ?_
  clear hK' K' h₁ w₁
  try walk_nrm
  refine Ev.regionEnd T ?_
  refine Ev.ret T ?_
  refine Ev.leaveR T (v := .tuple #[.agg #[.slice sp at0 cap, .int .i64 at0, .bool true], .int .i64 0, .bool false]) (fn := Try.f9) rfl rfl Try.func9 (fun w₁ h₁ => ?_) ?_
  · have hg0 : w₁.heap[(w.heap.size + 1)]? = some (.cells #[.slice sp at0 cap, .int .i64 at0, .bool true] 30) := (X4.rm hci hcd hz (M.rm _ _ h₁) (hPR _ _ h₁ X4.keep)).get 1 (by simp)
    have hl0 := ld30 hg0
    have hl1 := ld30e hg0
    have hre : Try.f9.results = Try.f9.results := rfl
    refine ⟨by simp [results, Try.f9, asAddr, hl0], fun e he => ?_⟩
    simp [results, Try.f9, asAddr, hl0] at he
    obtain ⟨x, h2, h3, h4⟩ := hl1 e he
    obtain ⟨loc, wr, sy⟩ := e
    cases h2
    exact M.acc _ _ _ (hfr _ (by omega)).2.2.2.1 (fun h => by cases h.symm.trans h3)
  · rw [Frame.finish_at]
    exact h _ X4.later X4.size X4.keep
set_option maxRecDepth 100000 in
set_option maxHeartbeats 4000000 in
theorem rnext_one (hN : N ≤ w.heap.size) (h1 : ci < N) (h2 : cs < N) (h3 : cd < N) {len cap : Nat} {at0 : Nat} {P : World → Prop} (hP : P w) (hPR : ∀ a b : World, R a b → P a → P b) (hPk : ∀ a b : World, a.heap.size ≤ b.heap.size → (∀ k, k < w.heap.size → b.heap[k]? = a.heap[k]?) → P a → P b) {ad : Addr} {z : Int} (hat : at0 < len) (hlen : len ≤ 1000) (hza : ¬ Z ad.block) (hcell : ∀ w₁, Later Z ci cd w w₁ → w₁.cell? (ad.add at0) = some (.int .i64 z)) (h : ∀ w', Later Z ci cd w w' → w'.heap.size = w.heap.size + 2 → P w' → Ev Try.prog true R D Stop (G (b.at (a.put ((ops[ii]?).bind (·.dst)) (.tuple #[.agg #[.slice (some ad) len cap, .int .i64 ((at0 : Int) + 1), .bool false], .int .i64 z, .bool true])) (.inRegion ops rest :: kk)) cs0) w') :
    Ev Try.prog true R D Stop (G ((base 9).at ⟨#[.agg #[.slice (some ad) len cap, .int .i64 at0, .bool false], undef, undef, undef, undef, undef, undef, undef, undef, undef, undef, undef, undef, undef, undef, undef, undef, undef, undef, undef, undef, undef, undef, undef, undef, undef, undef, undef, undef], []⟩ [.code body9]) (b.at a (.inRegion ops (ii :: rest) :: kk) :: cs0)) w := by
  have T := M.T
  have hfr := M.free hN h1 h2 h3
  have hci : ci < w.heap.size := by omega
  have hcd : cd < w.heap.size := by omega
  have hz : ∀ k, Z k → k < w.heap.size := fun k hk => by have := M.zb k hk; omega
  suffices hs : ∀ W0, ExtM Z ci cd P w [] W0 → Ev Try.prog true R D Stop (G ((base 9).at ⟨#[.agg #[.slice (some ad) len cap, .int .i64 at0, .bool false], undef, undef, undef, undef, undef, undef, undef, undef, undef, undef, undef, undef, undef, undef, undef, undef, undef, undef, undef, undef, undef, undef, undef, undef, undef, undef, undef, undef], []⟩ [.code body9]) (b.at a (.inRegion ops (ii :: rest) :: kk) :: cs0)) W0 from hs w (ExtM.refl _ _ _ w hP)
  intro W0 X0
  simp only [body9, Try.f9, Option.getD_some]
  refine Ev.seq T ?_
  refine Ev.region T ?_
  simp only [List.size_toArray, List.length_cons, List.length_nil, Nat.reduceAdd, Nat.zero_add, List.range, List.range.loop]
  refine Ev.turn rfl rfl (by decide) (fun w₁ h₁ K' hK' => ?_)
  have Y := X0.rm hci hcd hz (M.rm _ _ h₁) (hPR _ _ h₁ X0.keep)
  clear h₁
  go_simp
  refine hK' _ _ (M.alloc _ _ _ (by rw [Y.size]; omega) (fun e he => by have hm := mem_listed he; simp [go_sem] at hm)) ?_
  clear hK' K'
  try walk_nrm
  have hs : w₁.heap.size = w.heap.size := Y.size
  try simp only [hs]
  have X1 : ExtM Z ci cd P w [.cells #[.slice (some ad) len cap, .int .i64 at0, .bool false] 30] _ := Y.alloc hPk (.cells #[.slice (some ad) len cap, .int .i64 at0, .bool false] 30)
  generalize w₁.alloc (.cells #[.slice (some ad) len cap, .int .i64 at0, .bool false] 30) = W1 at X1 ⊢
  clear hs Y w₁
  refine Ev.turn rfl rfl (by decide) (fun w₁ h₁ K' hK' => ?_)
  have Y := X1.rm hci hcd hz (M.rm _ _ h₁) (hPR _ _ h₁ X1.keep)
  clear h₁
  go_simp
  refine hK' _ _ (M.alloc _ _ _ (by rw [Y.size]; omega) (fun e he => by have hm := mem_listed he; simp [go_sem] at hm)) ?_
  clear hK' K'
  try walk_nrm
  have hs : w₁.heap.size = (w.heap.size + 1) := Y.size
  try simp only [hs]
  have X2 : ExtM Z ci cd P w [.cells #[.slice (some ad) len cap, .int .i64 at0, .bool false] 30, .cells #[.slice none 0 0, .int .i64 0, .bool false] 30] _ := Y.alloc hPk (.cells #[.slice none 0 0, .int .i64 0, .bool false] 30)
  generalize w₁.alloc (.cells #[.slice none 0 0, .int .i64 0, .bool false] 30) = W2 at X2 ⊢
  clear hs Y w₁
  refine Ev.still T rfl rfl (by decide) (fun w₁ h₁ K' hK' => ?_)
  go_simp
  refine hK' _ (T.read _ _ (fun e he => by have hm := mem_listed he; simp [go_sem] at hm)) ?_
  clear hK' K' h₁ w₁
  try walk_nrm
  refine Ev.still T rfl rfl (by decide) (fun w₁ h₁ K' hK' => ?_)
  go_simp
  refine hK' _ (T.read _ _ (fun e he => by have hm := mem_listed he; simp [go_sem] at hm)) ?_
  clear hK' K' h₁ w₁
  try walk_nrm
  refine Ev.regionEnd T ?_
  refine Ev.seq T ?_
  refine Ev.seq T ?_
  refine Ev.region T ?_
  simp only [List.size_toArray, List.length_cons, List.length_nil, Nat.reduceAdd, Nat.zero_add, List.range, List.range.loop]
  refine Ev.still T rfl rfl (by decide) (fun w₁ h₁ K' hK' => ?_)
  go_simp
  refine hK' _ (T.read _ _ (fun e he => by have hm := mem_listed he; simp [go_sem] at hm)) ?_
  clear hK' K' h₁ w₁
  try walk_nrm
  refine Ev.still T rfl rfl (by decide) (fun w₁ h₁ K' hK' => ?_)
  have hf0 : w₁.cell? ⟨w.heap.size, 2, none⟩ = some (.bool false) := (X2.rm hci hcd hz (M.rm _ _ h₁) (hPR _ _ h₁ X2.keep)).cell 0 rfl 2
  go_simp
  refine hK' _ (T.read _ _ (fun e he => by have hm := mem_listed he; simp [go_sem, hf0] at hm; subst hm; exact M.acc _ _ _ (hfr _ (by first | exact Nat.le_refl _ | exact Nat.le_add_right _ _)).2.2.2.1 (fun h => by cases h))) ?_
  clear hK' K' hf0 h₁ w₁
  try walk_nrm
  refine Ev.still T rfl rfl (by decide) (fun w₁ h₁ K' hK' => ?_)
  go_simp
  refine hK' _ (T.read _ _ (fun e he => by have hm := mem_listed he; simp [go_sem] at hm)) ?_
  clear hK' K' h₁ w₁
  try walk_nrm
  refine Ev.still T rfl rfl (by decide) (fun w₁ h₁ K' hK' => ?_)
  go_simp
  refine hK' _ (T.read _ _ (fun e he => by have hm := mem_listed he; simp [go_sem] at hm)) ?_
  clear hK' K' h₁ w₁
  try walk_nrm
  refine Ev.still T rfl rfl (by decide) (fun w₁ h₁ K' hK' => ?_)
  have hf0 : w₁.cell? ⟨w.heap.size, 1, none⟩ = some (.int .i64 at0) := (X2.rm hci hcd hz (M.rm _ _ h₁) (hPR _ _ h₁ X2.keep)).cell 0 rfl 1
  go_simp
  refine hK' _ (T.read _ _ (fun e he => by have hm := mem_listed he; simp [go_sem, hf0] at hm; subst hm; exact M.acc _ _ _ (hfr _ (by first | exact Nat.le_refl _ | exact Nat.le_add_right _ _)).2.2.2.1 (fun h => by cases h))) ?_
  clear hK' K' hf0 h₁ w₁
  try walk_nrm
  refine Ev.still T rfl rfl (by decide) (fun w₁ h₁ K' hK' => ?_)
  go_simp
  refine hK' _ (T.read _ _ (fun e he => by have hm := mem_listed he; simp [go_sem] at hm)) ?_
  clear hK' K' h₁ w₁
  try walk_nrm
  refine Ev.still T rfl rfl (by decide) (fun w₁ h₁ K' hK' => ?_)
  have hf0 : w₁.cell? ⟨w.heap.size, 0, none⟩ = some (.slice (some ad) len cap) := (X2.rm hci hcd hz (M.rm _ _ h₁) (hPR _ _ h₁ X2.keep)).cell 0 rfl 0
  go_simp
  refine hK' _ (T.read _ _ (fun e he => by have hm := mem_listed he; simp [go_sem, hf0] at hm; subst hm; exact M.acc _ _ _ (hfr _ (by first | exact Nat.le_refl _ | exact Nat.le_add_right _ _)).2.2.2.1 (fun h => by cases h))) ?_
  clear hK' K' hf0 h₁ w₁
  try walk_nrm
  refine Ev.still T rfl rfl (by decide) (fun w₁ h₁ K' hK' => ?_)
  go_simp
  refine hK' _ (T.read _ _ (fun e he => by have hm := mem_listed he; simp [go_sem] at hm)) ?_
  clear hK' K' h₁ w₁
  try walk_nrm
  refine Ev.still T rfl rfl (by decide) (fun w₁ h₁ K' hK' => ?_)
  go_simp
  refine hK' _ (T.read _ _ (fun e he => by have hm := mem_listed he; simp [go_sem] at hm)) ?_
  clear hK' K' h₁ w₁
  try walk_nrm
  refine Ev.still T rfl rfl (by decide) (fun w₁ h₁ K' hK' => ?_)
  go_simp
  refine hK' _ (T.read _ _ (fun e he => by have hm := mem_listed he; simp [go_sem] at hm)) ?_
  clear hK' K' h₁ w₁
  try walk_nrm
  refine Ev.regionEnd T ?_
  refine Ev.cond T false (by simp [Act.eval]; omega) ?_
  simp only [if_true, if_false, Bool.false_eq_true, ↓reduceIte]
  refine Ev.skip T ?_
  refine Ev.seq T ?_
  refine Ev.region T ?_
  simp only [List.size_toArray, List.length_cons, List.length_nil, Nat.reduceAdd, Nat.zero_add, List.range, List.range.loop]
  refine Ev.still T rfl rfl (by decide) (fun w₁ h₁ K' hK' => ?_)
  go_simp
  refine hK' _ (T.read _ _ (fun e he => by have hm := mem_listed he; simp [go_sem] at hm)) ?_
  clear hK' K' h₁ w₁
  try walk_nrm
  refine Ev.still T rfl rfl (by decide) (fun w₁ h₁ K' hK' => ?_)
  have hf0 : w₁.cell? ⟨w.heap.size, 1, none⟩ = some (.int .i64 at0) := (X2.rm hci hcd hz (M.rm _ _ h₁) (hPR _ _ h₁ X2.keep)).cell 0 rfl 1
  go_simp
  refine hK' _ (T.read _ _ (fun e he => by have hm := mem_listed he; simp [go_sem, hf0] at hm; subst hm; exact M.acc _ _ _ (hfr _ (by first | exact Nat.le_refl _ | exact Nat.le_add_right _ _)).2.2.2.1 (fun h => by cases h))) ?_
  clear hK' K' hf0 h₁ w₁
  try walk_nrm
  refine Ev.still T rfl rfl (by decide) (fun w₁ h₁ K' hK' => ?_)
  go_simp
  refine hK' _ (T.read _ _ (fun e he => by have hm := mem_listed he; simp [go_sem] at hm)) ?_
  clear hK' K' h₁ w₁
  try walk_nrm
  rw [show IntKind.wrap .i64 ((at0 : Int) + 1) = (at0 : Int) + 1 from IntWalk.i64_in _ (by omega)]
  refine Ev.still T rfl rfl (by decide) (fun w₁ h₁ K' hK' => ?_)
  go_simp
  refine hK' _ (T.read _ _ (fun e he => by have hm := mem_listed he; simp [go_sem] at hm)) ?_
  clear hK' K' h₁ w₁
  try walk_nrm
  refine Ev.turn rfl rfl (by decide) (fun w₁ h₁ K' hK' => ?_)
  have Y := X2.rm hci hcd hz (M.rm _ _ h₁) (hPR _ _ h₁ X2.keep)
  clear h₁
  have hf0 : w₁.cell? ⟨w.heap.size, 1, none⟩ = some (.int .i64 at0) := Y.cell 0 rfl 1
  have hf1 : w₁.frozen? ⟨w.heap.size, 1, none⟩ = false := Y.froz 0 rfl 1
  have hes := fun es => events_store Try.prog w₁ es ⟨w.heap.size, 1, none⟩ (.int .i64 ((at0 : Int) + 1)) .plain rfl
  go_simp
  have hfi := hfr w.heap.size (by first | exact Nat.le_refl _ | exact Nat.le_add_right _ _)
  refine hK' _ _ (M.set _ _ _ _ hfi.1 hfi.2.1 hfi.2.2.1 (fun h => hfi.2.2.2.2 _ h rfl) hfi.2.2.2.1 (fun e he => by have hm := mem_listed he; simp [go_sem, hes, hf0, hf1, storedEv] at hm; subst hm; exact M.acc _ _ _ hfi.2.2.2.1 (fun _ h => hfi.2.2.2.2 _ h rfl))) ?_
  clear hK' K' hf0 hf1 hes hfi
  try walk_nrm
  have X3 : ExtM Z ci cd P w [.cells #[.slice (some ad) len cap, .int .i64 ((at0 : Int) + 1), .bool false] 30, .cells #[.slice none 0 0, .int .i64 0, .bool false] 30] _ := Y.set hPk 0 rfl 1 (.int .i64 ((at0 : Int) + 1))
  generalize w₁.setCell ⟨w.heap.size, 1, none⟩ (.int .i64 ((at0 : Int) + 1)) = W3 at X3 ⊢
  clear Y w₁
  refine Ev.regionEnd T ?_
  have hF : (fun w' => ∃ o0 o1 o2, ExtM Z ci cd P w [.cells #[.slice (some ad) len cap, .int .i64 ((at0 : Int) + 1), .bool false] 30, .cells #[o0, o1, o2] 30] w') W3 := ⟨_, _, _, X3⟩
  have rl : ∀ {x y : World}, (fun w' => ∃ o0 o1 o2, ExtM Z ci cd P w [.cells #[.slice (some ad) len cap, .int .i64 ((at0 : Int) + 1), .bool false] 30, .cells #[o0, o1, o2] 30] w') x → R x y → (fun w' => ∃ o0 o1 o2, ExtM Z ci cd P w [.cells #[.slice (some ad) len cap, .int .i64 ((at0 : Int) + 1), .bool false] 30, .cells #[o0, o1, o2] 30] w') y := fun ⟨o0, o1, o2, h⟩ r => ⟨o0, o1, o2, h.rm hci hcd hz (M.rm _ _ r) (hPR _ _ r h.keep)⟩
  have hwr0 : IntKind.i64.wrap (at0 : Int) = (at0 : Int) := IntWalk.i64_in _ (by omega)
  have hgg := fun w₁ (h : (fun w' => ∃ o0 o1 o2, ExtM Z ci cd P w [.cells #[.slice (some ad) len cap, .int .i64 ((at0 : Int) + 1), .bool false] 30, .cells #[o0, o1, o2] 30] w') w₁) => (show w₁.heap[w.heap.size]? = some (.cells #[.slice (some ad) len cap, .int .i64 ((at0 : Int) + 1), .bool false] 30) from by obtain ⟨o0, o1, o2, h⟩ := h; exact h.get 0 (by simp))
  have hca := fun w₁ (h : (fun w' => ∃ o0 o1 o2, ExtM Z ci cd P w [.cells #[.slice (some ad) len cap, .int .i64 ((at0 : Int) + 1), .bool false] 30, .cells #[o0, o1, o2] 30] w') w₁) => (show w₁.cell? (ad.add at0) = some (.int .i64 z) from by obtain ⟨o0, o1, o2, h⟩ := h; exact hcell w₁ h.later)
  have hcl0 := fun w₁ (h : (fun w' => ∃ o0 o1 o2, ExtM Z ci cd P w [.cells #[.slice (some ad) len cap, .int .i64 ((at0 : Int) + 1), .bool false] 30, .cells #[o0, o1, o2] 30] w') w₁) => (show w₁.cell? ⟨w.heap.size, 0, none⟩ = some (.slice (some ad) len cap) from by simp [World.cell?, hgg w₁ h])
  have hcl1 := fun w₁ (h : (fun w' => ∃ o0 o1 o2, ExtM Z ci cd P w [.cells #[.slice (some ad) len cap, .int .i64 ((at0 : Int) + 1), .bool false] 30, .cells #[o0, o1, o2] 30] w') w₁) => (show w₁.cell? ⟨w.heap.size, 1, none⟩ = some (.int .i64 ((at0 : Int) + 1)) from by simp [World.cell?, hgg w₁ h])
  have hcl2 := fun w₁ (h : (fun w' => ∃ o0 o1 o2, ExtM Z ci cd P w [.cells #[.slice (some ad) len cap, .int .i64 ((at0 : Int) + 1), .bool false] 30, .cells #[o0, o1, o2] 30] w') w₁) => (show w₁.cell? ⟨w.heap.size, 2, none⟩ = some (.bool false) from by simp [World.cell?, hgg w₁ h])
  have hlt0 : (at0 : Int) < (len : Int) := by omega
  have hzz := (hfr w.heap.size (Nat.le_refl _)).2.2.2.1
  have hcode : ∃ k, Code.wpC Try.prog true R D 9 draw9 k (fun e a' w' => e = .ret ∧ ExtM Z ci cd P w [.cells #[.slice (some ad) len cap, .int .i64 ((at0 : Int) + 1), .bool false] 30, .cells #[.slice (some ad) len cap, .int .i64 ((at0 : Int) + 1), .bool false] 30] w' ∧ ∃ arr, a' = ⟨arr, []⟩ ∧ arr.getD 2 undef = .pointer (some ⟨w.heap.size + 1, 0, none⟩) ∧ arr.getD 3 undef = .int .i64 z ∧ arr.getD 4 undef = .bool true) ⟨#[.agg #[.slice (some ad) len cap, .int .i64 at0, .bool false], .pointer (some ⟨w.heap.size, 0, none⟩), .pointer (some ⟨w.heap.size + 1, 0, none⟩), .int .i64 0, .bool false, .pointer (some ⟨w.heap.size, 2, none⟩), .bool false, .bool false, .pointer (some ⟨w.heap.size, 1, none⟩), .int .i64 at0, .pointer (some ⟨w.heap.size, 0, none⟩), .slice (some ad) len cap, .int .i64 len, .bool ((at0 : Int) == (len : Int)), .bool ((at0 : Int) == (len : Int)), undef, undef, .pointer (some ⟨w.heap.size, 1, none⟩), .int .i64 at0, .int .i64 ((at0 : Int) + 1), .pointer (some ⟨w.heap.size, 1, none⟩), undef, undef, undef, undef, undef, undef, undef, undef], []⟩ W3 := by
    co_apply Exists.intro
    simp only [draw9, body9, Try.f9, Option.getD_some]
    co_apply wpC_seq T.terms
    co_held T.terms M.draw (fun w => M.rdraw w (w.drawn + 1)) (fun w' => ∃ o0 o1 o2, ExtM Z ci cd P w [.cells #[.slice (some ad) len cap, .int .i64 ((at0 : Int) + 1), .bool false] 30, .cells #[o0, o1, o2] 30] w') rl hF
    co_take 0 T.terms rl hF hw (have hg0 := hgg _ hw; have hl0 := ld30 hg0; have hq0 := hcl0 _ hw; have hq1 := hcl1 _ hw; have hq2 := hcl2 _ hw) (refine T.read _ _ (fun e he => ?_); obtain ⟨x, h2, h3, h4⟩ := ld30e hg0 e (ev_load30 rfl rfl hl0 (mem_listed he)); obtain ⟨loc, wr, sy⟩ := e; cases h2; exact M.acc _ _ _ (hfr _ (by omega)).2.2.2.1 (fun h => by cases h.symm.trans h3))
    co_take 1 T.terms rl hF hw (skip) (co_quiet T.terms)
    co_take 2 T.terms rl hF hw (have hq0 := hcl0 _ hw) (refine T.read _ _ ?_; co_evs (exact M.acc _ _ _ hzz (fun h => by cases h)))
    co_take 3 T.terms rl hF hw (skip) (co_quiet T.terms)
    co_take 4 T.terms rl hF hw (have hq1 := hcl1 _ hw) (refine T.read _ _ ?_; co_evs (exact M.acc _ _ _ hzz (fun h => by cases h)))
    co_take 5 T.terms rl hF hw (skip) (co_quiet T.terms)
    co_take 6 T.terms rl hF hw (skip) (co_still T.terms)
    co_take 7 T.terms rl hF hw (have hq := hca _ hw) (refine T.read _ _ ?_; co_evs (exact M.acc _ _ _ (by rw [add_block]; exact hza) (fun h => by cases h)))
    refine anyCH_all (rs := [8]) (by first | kernel_rfl | decide +kernel) (by simp) (fun i hi => ?_)
    obtain rfl : i = 8 := by simpa using hi
    refine OpC_of rfl (by rfl) (fun w₁ h₁ K' hK' => ?_)
    obtain ⟨o0, o1, o2, Y⟩ := rl hF h₁
    clear h₁
    have hg0 : w₁.heap[(w.heap.size + 1)]? = some (.cells #[o0, o1, o2] 30) := Y.get 1 (by simp)
    have hst := st30 (v0 := .slice (some ad) len cap) (v1 := .int .i64 ((at0 : Int) + 1)) (v2 := .bool false) hg0 (by simp [Value.oneCell'])
    have hse := st30e (v0 := .slice (some ad) len cap) (v1 := .int .i64 ((at0 : Int) + 1)) (v2 := .bool false) hg0 (by simp [Value.oneCell'])
    have hq0 : w₁.cell? ⟨w.heap.size + 1, 0, none⟩ = some o0 := by simp [World.cell?, hg0]
    have hq1 : w₁.cell? ⟨w.heap.size + 1, 1, none⟩ = some o1 := by simp [World.cell?, hg0]
    have hq2 : w₁.cell? ⟨w.heap.size + 1, 2, none⟩ = some o2 := by simp [World.cell?, hg0]
    have hp0 : w₁.frozen? ⟨w.heap.size + 1, 0, none⟩ = false := by simp [World.frozen?, hg0]
    have hp1 : w₁.frozen? ⟨w.heap.size + 1, 1, none⟩ = false := by simp [World.frozen?, hg0]
    have hp2 : w₁.frozen? ⟨w.heap.size + 1, 2, none⟩ = false := by simp [World.frozen?, hg0]
    go_simp
    have X9 : ExtM Z ci cd P w [.cells #[.slice (some ad) len cap, .int .i64 ((at0 : Int) + 1), .bool false] 30, .cells #[.slice (some ad) len cap, .int .i64 ((at0 : Int) + 1), .bool false] 30] _ := ((Y.set hPk 1 rfl 0 (.slice (some ad) len cap)).set hPk 1 rfl 1 (.int .i64 ((at0 : Int) + 1))).set hPk 1 rfl 2 (.bool false)
    have hfi := hfr (w.heap.size + 1) (Nat.le_add_right _ _)
    refine hK' _ _ ⟨M.grow _ _ (some (w.heap.size + 1)) _ (by rw [Y.size]; omega) (grownBy_set3 _ _ _ _ _) (fun k hk => by cases hk; exact hfi) (fun e he => by obtain ⟨x, h2, h3⟩ := hse e (ev_store30 rfl rfl rfl hst (mem_listed he)); obtain ⟨loc, wr, sy⟩ := e; cases h2; have hq := hfr x.block (by omega); exact M.acc _ _ _ hq.2.2.2.1 (fun _ h => hq.2.2.2.2 _ h rfl)), ⟨_, _, _, X9⟩, ?_⟩
    have hF2 : (fun w' => ∃ o0 o1 o2, ExtM Z ci cd P w [.cells #[.slice (some ad) len cap, .int .i64 ((at0 : Int) + 1), .bool false] 30, .cells #[o0, o1, o2] 30] w') _ := ⟨_, _, _, X9⟩
    co_take 9 T.terms rl hF2 hw (skip) (co_quiet T.terms)
    co_take 10 T.terms rl hF2 hw (skip) (co_quiet T.terms)
    refine anyCH_done (by first | kernel_rfl | decide +kernel) ?_ _
    co_then
    co_apply (wpC_ret T.terms)
    exact ⟨rfl, X9, _, rfl, by rfl, by rfl, by rfl⟩
  obtain ⟨k0, hcode⟩ := hcode
  simp only [draw9, body9, Try.f9, Option.getD_some] at hcode
  refine Ev.code T hcode (by decide) ?_
  rintro e a' w' ⟨rfl, X9, arr, rfl, r2, r3, r4⟩
  intro todo
  simp only [Array.getD_eq_getD_getElem?] at r2 r3 r4
  refine Ev.leaveR T (v := .tuple #[.agg #[.slice (some ad) len cap, .int .i64 ((at0 : Int) + 1), .bool false], .int .i64 z, .bool true]) (fn := Try.f9) rfl rfl Try.func9 (fun w₁ h₁ => ?_) ?_
  · have hg0 : w₁.heap[(w.heap.size + 1)]? = some (.cells #[.slice (some ad) len cap, .int .i64 ((at0 : Int) + 1), .bool false] 30) := (X9.rm hci hcd hz (M.rm _ _ h₁) (hPR _ _ h₁ X9.keep)).get 1 (by simp)
    have hl0 := ld30 hg0
    have hl1 := ld30e hg0
    have hre : Try.f9.results = Try.f9.results := rfl
    refine ⟨by simp [results, Try.f9, asAddr, hl0, r2, r3, r4], fun e he => ?_⟩
    simp [results, Try.f9, asAddr, hl0, r2, r3, r4] at he
    obtain ⟨x, h2, h3, h4⟩ := hl1 e he
    obtain ⟨loc, wr, sy⟩ := e
    cases h2
    exact M.acc _ _ _ (hfr _ (by omega)).2.2.2.1 (fun h => by cases h.symm.trans h3)
  · rw [Frame.finish_at]
    exact h _ X9.later X9.size X9.keep
end
end Go.Proofs.Ytnbfmbkglkjhmaa
