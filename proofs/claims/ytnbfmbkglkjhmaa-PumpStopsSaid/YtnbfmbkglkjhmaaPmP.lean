import Derived.Test.YtnbfmbkglkjhmaaPmO
set_option linter.unusedSimpArgs false
set_option linter.unusedVariables false
namespace Go.Proofs.Ytnbfmbkglkjhmaa
open Go.Conc Go.RowKit Go.Pmp

/-- How goroutine 0 may go, alone or beside the maker: N: every block that the maker knows lies below. -/
structure Main (Z : Nat → Prop) (ci cs cd N : Nat) (C : Addr → Prop) (R : World → World → Prop) (D : World → World → Array Event → Prop) (Ok : Event → Prop) : Prop where
  T : Quiet R D Ok
  rm : ∀ a b, R a b → RMx Z ci cd a b
  alloc : ∀ w o es, N ≤ w.heap.size → (∀ e ∈ es, Ok e) → D w (w.alloc o) es
  set : ∀ w a v es, a.block ≠ ci → a.block ≠ cs → a.block ≠ cd → ¬ C a → ¬ Z a.block → (∀ e ∈ es, Ok e) → D w (w.setCell a v) es
  zb : ∀ k, Z k → k < N
  rd : ∀ a : Addr, ¬ Z a.block → Ok ⟨.cell a, false, false⟩
  wr : ∀ a : Addr, ¬ C a → ¬ Z a.block → Ok ⟨.cell a, true, false⟩

theorem heap_setCell (w : World) (a : Addr) (v : Value) {k : Nat} (h : a.block ≠ k) : (w.setCell a v).heap[k]? = w.heap[k]? := Below.heap_setCell w a v k (Ne.symm h)
theorem main_alone (Z : Nat → Prop) (ci cs cd N : Nat) (C : Addr → Prop) (hz : ∀ k, Z k → k < N) : Main Z ci cs cd N C AtRel D1 Ev1 where
  T := quiet1
  rm := fun a b ⟨d, h⟩ => h ▸ ⟨rfl, rfl, rfl, rfl, fun _ _ _ _ => rfl⟩
  alloc _ _ _ _ h := h
  set _ _ _ _ _ _ _ _ _ h := h
  zb := hz
  rd a _ := by simp [Ev1]
  wr a _ _ := by simp [Ev1]
theorem main_with {Z : Nat → Prop} {top j ci cs cd room N : Nat} {f : Nat → Value} {Q : Nat → Prop} {End : Nat → Bool → Value → World → Prop} {C : Addr → Prop} (O : (envC Z top j ci cs cd room f Q End C).Ok) (h1 : ci < N) (h2 : cs < N) (h3 : cd < N) (hC : ∀ a, C a ∨ Z a.block → a.block < N) (hz : ∀ k, Z k → k < N) : Main Z ci cs cd N C (RMx Z ci cd) (DM (envC Z top j ci cs cd room f Q End C)) (EvM (fun l => l = .obj ci ∨ ∃ a : Addr, Z a.block ∧ l = .cell a) (fun l => ∃ a, C a ∧ l = .cell a)) where
  T := O.quietM
  rm _ _ h := h
  alloc w o es hN h := ⟨h, Below.heap_alloc _ _ _ (by show ci < _; omega), Below.heap_alloc _ _ _ (by show cs < _; omega), Below.heap_alloc _ _ _ (by show cd < _; omega),
    ⟨fun a ha => cell_of_block (Below.heap_alloc _ _ _ (by have := hC a ha; omega)), fun a ha => froz_of_block (Below.heap_alloc _ _ _ (by have := hC a ha; omega))⟩⟩
  set w a v es k1 k2 k3 hc hz h := ⟨h, heap_setCell _ _ _ k1, heap_setCell _ _ _ k2, heap_setCell _ _ _ k3, ⟨fun b hb => World.cell?_setCell_other _ _ _ _ (by rintro rfl; exact hb.elim hc hz), fun b hb => World.frozen?_setCell _ _ _ _⟩⟩
  zb := hz
  rd a hz := ⟨fun x hx => by simp [MemAct.ofEvent, MemAct.touch?] at hx; subst hx; exact ⟨fun h => h.elim (fun h => by cases h) (fun ⟨b, hb, e⟩ => hz ((Loc.cell.inj e) ▸ hb)), fun _ => rfl⟩, by simp [Ev1]⟩
  wr a hc hz := ⟨fun x hx => by simp [MemAct.ofEvent, MemAct.touch?] at hx; subst hx; exact ⟨fun h => h.elim (fun h => by cases h) (fun ⟨b, hb, e⟩ => hz ((Loc.cell.inj e) ▸ hb)), fun ⟨b, hb, e⟩ => absurd ((Loc.cell.inj e) ▸ hb) hc⟩, by simp [Ev1]⟩

noncomputable def body19 : Code := Try.f19.body.getD .skip
set_option maxRecDepth 100000 in
theorem begin_on {Z : Nat → Prop} {ci cs cd N : Nat} {C : Addr → Prop} {main : Bool} {R : World → World → Prop} {D : World → World → Array Event → Prop} {Ok : Event → Prop} {Stop : GW} (M : Main Z ci cs cd N C R D Ok) {pb : Nat} (hci : ci < N) (hcd : cd < N) (hpb : pb < N) (hpz : ¬ Z pb) (hpi : pb ≠ ci) (hpd : pb ≠ cd)
    {b : Frame} {a : Act} {ops : Array Oper} {ii : Nat} {rest : List Nat} {kk : List Item} {cs0 : List Frame} {w : World} (hN : N ≤ w.heap.size) (hb : w.cell? ⟨pb, 4, none⟩ = some (.bool true)) (hz : w.frozen? ⟨pb, 4, none⟩ = false)
    (h : ∀ w₁, R w w₁ → Ev Try.prog main R D Stop (G (b.at (a.put ((ops[ii]?).bind (·.dst)) (.tuple #[])) (.inRegion ops rest :: kk)) cs0) (w₁.alloc (.cells #[.pointer (some ⟨pb, 0, none⟩)] 25))) :
    Ev Try.prog main R D Stop (G ((base 19).at ⟨#[.pointer (some ⟨pb, 0, none⟩), undef, undef, undef, undef, undef, undef, undef, undef, undef], []⟩ [.code body19]) (b.at a (.inRegion ops (ii :: rest) :: kk) :: cs0)) w := by
  have T := M.T
  simp only [body19, Try.f19, Option.getD_some]
  refine Ev.seq T ?_
  refine Ev.region T ?_
  simp only [List.size_toArray, List.length_cons, List.length_nil, Nat.reduceAdd, Nat.zero_add, List.range, List.range.loop]
  refine Ev.turn rfl rfl (by decide) (fun w₁ h₁ K' hK' => ?_)
  go_simp
  refine hK' _ _ (M.alloc _ _ _ (by have := (M.rm _ _ h₁).size; omega) (fun e he => by have hm := mem_listed he; simp [go_sem] at hm)) ?_
  clear hK' K'
  try walk_nrm
  have hsz := (M.rm _ _ h₁).size
  have hv : ∀ w₂, R (w₁.alloc (.cells #[.pointer (some ⟨pb, 0, none⟩)] 25)) w₂ → w₂.cell? ⟨w₁.heap.size, 0, none⟩ = some (.pointer (some ⟨pb, 0, none⟩)) ∧ w₂.frozen? ⟨w₁.heap.size, 0, none⟩ = false ∧ w₂.cell? ⟨pb, 4, none⟩ = some (.bool true) ∧ w₂.frozen? ⟨pb, 4, none⟩ = false := by
    intro w₂ h₂
    have r2 := M.rm _ _ h₂
    have r1 := M.rm _ _ h₁
    have e0 := r2.block w₁.heap.size (by omega) (by omega) (fun h => by have := M.zb _ h; have := (M.rm _ _ h₁).size; omega)
    have e1 := r2.block pb hpi hpd hpz
    have e2 : (w₁.alloc (.cells #[.pointer (some ⟨pb, 0, none⟩)] 25)).heap[pb]? = w₁.heap[pb]? := Below.heap_alloc _ _ _ (by omega)
    have e3 := r1.block pb hpi hpd hpz
    have c0 := heap_alloc_new w₁ (.cells #[.pointer (some ⟨pb, 0, none⟩)] 25)
    refine ⟨?_, ?_, ?_, ?_⟩
    · rw [cell_of_block e0, World.cell?_alloc_at _ _ _ _ rfl]; rfl
    · rw [froz_of_block e0, World.frozen?_alloc_at _ _ _ _ rfl]
    · rw [cell_of_block (e1.trans (e2.trans e3))]; exact hb
    · rw [froz_of_block (e1.trans (e2.trans e3))]; exact hz
  have hnz : ¬ Z w₁.heap.size := fun h => by have := M.zb _ h; omega
  clear hsz
  refine Ev.regionEnd T ?_
  refine Ev.seq T ?_
  refine Ev.seq T ?_
  refine Ev.region T ?_
  simp only [List.size_toArray, List.length_cons, List.length_nil, Nat.reduceAdd, Nat.zero_add, List.range, List.range.loop]
  refine Ev.still T rfl rfl (by decide) (fun w₂ h₂ K' hK' => ?_)
  have hf0 := (hv w₂ h₂).1
  have hf1 := (hv w₂ h₂).2.1
  go_simp
  refine hK' _ (T.read _ _ (fun e he => by have hm := mem_listed he; simp [go_sem, *] at hm; subst hm; exact M.rd _ hnz)) ?_
  clear hK' K' hf0 hf1 h₂ w₂
  try walk_nrm
  refine Ev.still T rfl rfl (by decide) (fun w₂ h₂ K' hK' => ?_)
  go_simp
  refine hK' _ (T.read _ _ (fun e he => by have hm := mem_listed he; simp [go_sem] at hm)) ?_
  clear hK' K' h₂ w₂
  try walk_nrm
  refine Ev.still T rfl rfl (by decide) (fun w₂ h₂ K' hK' => ?_)
  go_simp
  refine hK' _ (T.read _ _ (fun e he => by have hm := mem_listed he; simp [go_sem] at hm)) ?_
  clear hK' K' h₂ w₂
  try walk_nrm
  refine Ev.still T rfl rfl (by decide) (fun w₂ h₂ K' hK' => ?_)
  have hf0 := (hv w₂ h₂).2.2.1
  have hf1 := (hv w₂ h₂).2.2.2
  go_simp
  refine hK' _ (T.read _ _ (fun e he => by have hm := mem_listed he; simp [go_sem, *] at hm; subst hm; exact M.rd _ hpz)) ?_
  clear hK' K' hf0 hf1 h₂ w₂
  try walk_nrm
  refine Ev.regionEnd T ?_
  refine Ev.cond T true rfl ?_
  simp only [if_true, if_false, Bool.false_eq_true, ↓reduceIte]
  refine Ev.ret T ?_
  refine Ev.leave0 T (fn := Try.f19) rfl rfl Try.func19 rfl ?_
  exact h w₁ h₁
end Go.Proofs.Ytnbfmbkglkjhmaa
