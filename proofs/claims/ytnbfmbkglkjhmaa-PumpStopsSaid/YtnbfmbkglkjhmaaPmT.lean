import Derived.Test.YtnbfmbkglkjhmaaPmS
set_option linter.unusedSimpArgs false
set_option linter.unusedVariables false
namespace Go.Proofs.Ytnbfmbkglkjhmaa
open Go.Conc Go.RowKit Go.Pmp

/-- Goroutine 0 stands at its go statement. -/
def AtGo (K : Goroutine → Goroutine → World → Prop) (g : Goroutine) (w : World) : Prop :=
  g.status = .running ∧ ∃ a' child, (∀ d, stepG Try.prog true g (w.at d) = .spawn a' child (w.at d) #[]) ∧ K a' child w
/-- The world at the go statement. -/
def goW (pb : Nat) (w : World) : World := (w.alloc (.cells #[.pointer (some ⟨pb, 0, none⟩)] 25)).setCell ⟨pb, 4, none⟩ (.bool true)
set_option maxRecDepth 100000 in
set_option maxHeartbeats 2000000 in
theorem begin_go {pb : Nat} {b : Frame} {a : Act} {ops : Array Oper} {ii : Nat} {rest : List Nat} {kk : List Item} {cs0 : List Frame} {w : World} (hpb : pb < w.heap.size) (hb : w.cell? ⟨pb, 4, none⟩ = some (.bool false)) (hz : w.frozen? ⟨pb, 4, none⟩ = false) :
    Ev Try.prog true AtRel D1 (AtGo fun a' child W => (∃ d d', W = (goW pb (w.at d)).at d') ∧ child = born Try.prog (call22 w.heap.size) ∧
      ∀ (R : World → World → Prop) (D : World → World → Array Event → Prop) (Ok : Event → Prop) (Stop : GW) (W' : World), Quiet R D Ok → Ev Try.prog true R D Stop (G (b.at (a.put ((ops[ii]?).bind (·.dst)) (.tuple #[])) (.inRegion ops rest :: kk)) cs0) W' → Ev Try.prog true R D Stop a' W')
      (G ((base 19).at ⟨#[.pointer (some ⟨pb, 0, none⟩), undef, undef, undef, undef, undef, undef, undef, undef, undef], []⟩ [.code body19]) (b.at a (.inRegion ops (ii :: rest) :: kk) :: cs0)) w := by
  have T := quiet1
  simp only [body19, Try.f19, Option.getD_some]
  refine Ev.seq T ?_
  refine Ev.region T ?_
  simp only [List.size_toArray, List.length_cons, List.length_nil, Nat.reduceAdd, Nat.zero_add, List.range, List.range.loop]
  refine Ev.turn rfl rfl (by decide) (fun w₁ h₁ K' hK' => ?_)
  obtain ⟨d, rfl⟩ := h₁
  go_simp
  refine hK' _ _ (fun e he => by have hm := mem_listed he; simp [go_sem] at hm) ?_
  clear hK' K'
  try walk_nrm
  have hsz : (w.at d).heap.size = w.heap.size := rfl
  have v1 : ((w.at d).alloc (.cells #[.pointer (some ⟨pb, 0, none⟩)] 25)).cell? ⟨w.heap.size, 0, none⟩ = some (.pointer (some ⟨pb, 0, none⟩)) := by show ((w.at d).alloc _).cell? ⟨(w.at d).heap.size, 0, none⟩ = _; rw [World.cell?_alloc_at _ _ _ _ rfl]; rfl
  have v2 : ((w.at d).alloc (.cells #[.pointer (some ⟨pb, 0, none⟩)] 25)).frozen? ⟨w.heap.size, 0, none⟩ = false := by show ((w.at d).alloc _).frozen? ⟨(w.at d).heap.size, 0, none⟩ = _; rw [World.frozen?_alloc_at _ _ _ _ rfl]
  have v3 : ((w.at d).alloc (.cells #[.pointer (some ⟨pb, 0, none⟩)] 25)).cell? ⟨pb, 4, none⟩ = some (.bool false) := (cell_of_block (Below.heap_alloc _ _ _ (by exact hpb))).trans hb
  have v4 : ((w.at d).alloc (.cells #[.pointer (some ⟨pb, 0, none⟩)] 25)).frozen? ⟨pb, 4, none⟩ = false := (froz_of_block (Below.heap_alloc _ _ _ (by exact hpb))).trans hz
  clear hsz
  refine Ev.regionEnd T ?_
  refine Ev.seq T ?_
  refine Ev.seq T ?_
  refine Ev.region T ?_
  simp only [List.size_toArray, List.length_cons, List.length_nil, Nat.reduceAdd, Nat.zero_add, List.range, List.range.loop]
  refine Ev.still T rfl rfl (by decide) (fun w₂ h₂ K' hK' => ?_)
  obtain ⟨d2, rfl⟩ := h₂
  have hf0 := v1
  have hf1 := v2
  go_simp
  refine hK' _ (T.read _ _ (fun e he => by have hm := mem_listed he; simp [go_sem, *] at hm; subst hm; simp [Ev1])) ?_
  clear hK' K' hf0 hf1 d2
  try walk_nrm
  refine Ev.still T rfl rfl (by decide) (fun w₅ h₅ K' hK' => ?_)
  go_simp
  refine hK' _ (T.read _ _ (fun e he => by have hm := mem_listed he; simp [go_sem] at hm)) ?_
  clear hK' K' h₅ w₅
  try walk_nrm
  refine Ev.still T rfl rfl (by decide) (fun w₅ h₅ K' hK' => ?_)
  go_simp
  refine hK' _ (T.read _ _ (fun e he => by have hm := mem_listed he; simp [go_sem] at hm)) ?_
  clear hK' K' h₅ w₅
  try walk_nrm
  refine Ev.still T rfl rfl (by decide) (fun w₂ h₂ K' hK' => ?_)
  obtain ⟨d2, rfl⟩ := h₂
  have hf0 := v3
  have hf1 := v4
  go_simp
  refine hK' _ (T.read _ _ (fun e he => by have hm := mem_listed he; simp [go_sem, *] at hm; subst hm; simp [Ev1])) ?_
  clear hK' K' hf0 hf1 d2
  try walk_nrm
  refine Ev.regionEnd T ?_
  refine Ev.cond T false rfl ?_
  simp only [if_true, if_false, Bool.false_eq_true, ↓reduceIte]
  refine Ev.skip T ?_
  refine Ev.seq T ?_
  refine Ev.region T ?_
  simp only [List.size_toArray, List.length_cons, List.length_nil, Nat.reduceAdd, Nat.zero_add, List.range, List.range.loop]
  refine Ev.still T rfl rfl (by decide) (fun w₂ h₂ K' hK' => ?_)
  obtain ⟨d2, rfl⟩ := h₂
  have hf0 := v1
  have hf1 := v2
  go_simp
  refine hK' _ (T.read _ _ (fun e he => by have hm := mem_listed he; simp [go_sem, *] at hm; subst hm; simp [Ev1])) ?_
  clear hK' K' hf0 hf1 d2
  try walk_nrm
  refine Ev.still T rfl rfl (by decide) (fun w₅ h₅ K' hK' => ?_)
  go_simp
  refine hK' _ (T.read _ _ (fun e he => by have hm := mem_listed he; simp [go_sem] at hm)) ?_
  clear hK' K' h₅ w₅
  try walk_nrm
  refine Ev.still T rfl rfl (by decide) (fun w₅ h₅ K' hK' => ?_)
  go_simp
  refine hK' _ (T.read _ _ (fun e he => by have hm := mem_listed he; simp [go_sem] at hm)) ?_
  clear hK' K' h₅ w₅
  try walk_nrm
  refine Ev.turn rfl rfl (by decide) (fun w₂ h₂ K' hK' => ?_)
  obtain ⟨d2, rfl⟩ := h₂
  have hes := fun es => events_store Try.prog (((w.at d).alloc (.cells #[.pointer (some ⟨pb, 0, none⟩)] 25)).at d2) es ⟨pb, 4, none⟩ (.bool true) .plain rfl
  go_simp
  refine hK' _ _ (fun e he => by have hm := mem_listed he; simp [go_sem, hes, storedEv, *] at hm; subst hm; simp [Ev1]) ?_
  clear hK' K' hes
  try walk_nrm
  refine Ev.regionEnd T ?_
  refine Ev.region T ?_
  simp only [List.size_toArray, List.length_cons, List.length_nil, Nat.reduceAdd, Nat.zero_add, List.range, List.range.loop]
  refine Ev.still T rfl rfl (by decide) (fun w₅ h₅ K' hK' => ?_)
  go_simp
  refine hK' _ (T.read _ _ (fun e he => by have hm := mem_listed he; simp [go_sem] at hm)) ?_
  clear hK' K' h₅ w₅
  try walk_nrm
  refine .stop fun w₃ h₃ => ?_
  obtain ⟨d3, rfl⟩ := h₃
  refine ⟨rfl, _, born Try.prog (call22 w.heap.size), fun d4 => by rw [stepG_spawn (d := call22 w.heap.size) rfl rfl (by decide) (by simp [go_sem, execOp, Act.eval, call22]; rfl) rfl, listed_none (by simp [go_sem, execOp, Act.eval])], ⟨d, d3, rfl⟩, rfl, fun R D Ok Stop W' T' hn => ?_⟩
  try walk_nrm
  refine Ev.regionEnd T' ?_
  refine Ev.fin T' ?_
  refine Ev.leave0 T' (fn := Try.f19) rfl rfl Try.func19 rfl ?_
  exact hn
end Go.Proofs.Ytnbfmbkglkjhmaa
