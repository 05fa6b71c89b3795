import Derived.Test.YtnbfmbkglkjhmaaPmP
set_option linter.unusedSimpArgs false
set_option linter.unusedVariables false
namespace Go.Proofs.Ytnbfmbkglkjhmaa
open Go.Conc Go.RowKit Go.Pmp

noncomputable def body20 : Code := Try.f20.body.getD .skip
section
variable {Z : Nat → Prop} {top j ci cs cd room N : Nat} {f : Nat → Value} {Q : Nat → Prop} {End : Nat → Bool → Value → World → Prop} {C : Addr → Prop} {S1 : GW}
set_option maxRecDepth 100000 in
set_option maxHeartbeats 2000000 in
/-- The maker's last word is heard. -/
theorem end_ms (O : (envC Z top j ci cs cd room f Q End C).Ok) (M : Main Z ci cs cd N C (RMx Z ci cd) (DM (envC Z top j ci cs cd room f Q End C)) (EvM (fun l => l = .obj ci ∨ ∃ a : Addr, Z a.block ∧ l = .cell a) (fun l => ∃ a, C a ∧ l = .cell a))) {pb k r : Nat} {X S : Bool} (hxs : X = true ∨ S = true)
    (hpz : ¬ Z pb) (hpi : pb ≠ ci) (hps : pb ≠ cs) (hpd : pb ≠ cd) (hC5 : ¬ C ⟨pb, 5, none⟩) (hEI : ∀ i st e w, End i st e w → ∃ x, e = .int .i64 x)
    {b : Frame} {a : Act} {ops : Array Oper} {ii : Nat} {rest : List Nat} {kk : List Item} {cs0 : List Frame} {w : World} (ho : w.cell? ⟨pb, 5, none⟩ = some (.bool false)) (hz : ∀ n, n < 7 → w.frozen? ⟨pb, n, none⟩ = false) (hd : w.cell? ⟨pb, 3, none⟩ = some (.chan (some cd))) {t0 : Value} (ht : w.cell? ⟨pb, 6, none⟩ = some t0)
    (h : ∀ w₁ w₂ i st e, RMx Z ci cd w w₁ → RMx Z ci cd (w₁.setCell ⟨pb, 5, none⟩ (.bool true)) w₂ → r ≤ i → i ≤ r + room → (X = true → i = r) → (S = false → st = false) → End i st e w₂ →
      ∀ d, Ev Try.prog true AtRel D1 S1 (G (b.at (a.put ((ops[ii]?).bind (·.dst)) (.tuple #[])) (.inRegion ops rest :: kk)) cs0) ((w₂.at d).setCell ⟨pb, 6, none⟩ e)) :
    MS (envC Z top j ci cs cd room f Q End C) (Ev Try.prog true AtRel D1 S1) (k + 1) r X S (G ((base 20).at ⟨#[.pointer (some ⟨pb, 0, none⟩), undef, undef, undef, undef, undef, undef, undef, undef, undef, undef, undef, undef, undef, undef, undef, undef], []⟩ [.code body20]) (b.at a (.inRegion ops (ii :: rest) :: kk) :: cs0)) w := by
  have T := O.quietM
  have fac : ∀ w₁, RMx Z ci cd w w₁ → ∀ n, w₁.cell? ⟨pb, n, none⟩ = w.cell? ⟨pb, n, none⟩ ∧ w₁.frozen? ⟨pb, n, none⟩ = w.frozen? ⟨pb, n, none⟩ := fun w₁ h n => ⟨cell_of_block (h.block _ hpi hpd hpz), froz_of_block (h.block _ hpi hpd hpz)⟩
  show Ev _ _ _ _ _ _ _
  simp only [body20, Try.f20, Option.getD_some]
  refine Ev.seq T ?_
  refine Ev.seq T ?_
  refine Ev.region T ?_
  simp only [List.size_toArray, List.length_cons, List.length_nil, Nat.reduceAdd, Nat.zero_add, List.range, List.range.loop]
  refine Ev.still T rfl rfl (by decide) (fun w₁ h₁ K' hK' => ?_)
  go_simp
  refine hK' _ (T.read _ _ (fun e he => by have hm := mem_listed he; simp [go_sem] at hm)) ?_
  clear hK' K' h₁ w₁
  try walk_nrm
  refine Ev.still T rfl rfl (by decide) (fun w₁ h₁ K' hK' => ?_)
  go_simp
  refine hK' _ (T.read _ _ (fun e he => by have hm := mem_listed he; simp [go_sem] at hm)) ?_
  clear hK' K' h₁ w₁
  try walk_nrm
  refine Ev.still T rfl rfl (by decide) (fun w₁ h₁ K' hK' => ?_)
  go_simp
  refine hK' _ (T.read _ _ (fun e he => by have hm := mem_listed he; simp [go_sem] at hm)) ?_
  clear hK' K' h₁ w₁
  try walk_nrm
  refine Ev.still T rfl rfl (by decide) (fun w₁ h₁ K' hK' => ?_)
  have hf0 := (fac _ h₁ 5).1.trans ho
  have hf1 := (fac _ h₁ 5).2.trans (hz 5 (by omega))
  go_simp
  refine hK' _ (T.read _ _ (fun e he => by have hm := mem_listed he; simp [go_sem, *] at hm; subst hm; exact M.rd _ hpz)) ?_
  clear hK' K' hf0 hf1 h₁ w₁
  try walk_nrm
  refine Ev.regionEnd T ?_
  refine Ev.cond T false rfl ?_
  simp only [if_true, if_false, Bool.false_eq_true, ↓reduceIte]
  refine Ev.skip T ?_
  refine Ev.seq T ?_
  refine Ev.region T ?_
  simp only [List.size_toArray, List.length_cons, List.length_nil, Nat.reduceAdd, Nat.zero_add, List.range, List.range.loop]
  refine Ev.still T rfl rfl (by decide) (fun w₁ h₁ K' hK' => ?_)
  go_simp
  refine hK' _ (T.read _ _ (fun e he => by have hm := mem_listed he; simp [go_sem] at hm)) ?_
  clear hK' K' h₁ w₁
  try walk_nrm
  refine Ev.still T rfl rfl (by decide) (fun w₁ h₁ K' hK' => ?_)
  go_simp
  refine hK' _ (T.read _ _ (fun e he => by have hm := mem_listed he; simp [go_sem] at hm)) ?_
  clear hK' K' h₁ w₁
  try walk_nrm
  refine Ev.still T rfl rfl (by decide) (fun w₁ h₁ K' hK' => ?_)
  go_simp
  refine hK' _ (T.read _ _ (fun e he => by have hm := mem_listed he; simp [go_sem] at hm)) ?_
  clear hK' K' h₁ w₁
  try walk_nrm
  refine Ev.turn rfl rfl (by decide) (fun w₁ h₁ K' hK' => ?_)
  have hf0 := (fac _ h₁ 5).1.trans ho
  have hf1 := (fac _ h₁ 5).2.trans (hz 5 (by omega))
  have hes := fun es => events_store Try.prog w₁ es ⟨pb, 5, none⟩ (.bool true) .plain rfl
  go_simp
  refine hK' _ _ (M.set _ _ _ _ hpi hps hpd hC5 hpz (fun e he => by have hm := mem_listed he; simp [go_sem, hes, storedEv, *] at hm; subst hm; exact M.wr _ hC5 hpz)) ?_
  clear hK' K'
  try walk_nrm
  have fac2 : ∀ w₂, RMx Z ci cd (w₁.setCell ⟨pb, 5, none⟩ (.bool true)) w₂ → w₂.cell? ⟨pb, 3, none⟩ = some (.chan (some cd)) ∧ w₂.frozen? ⟨pb, 3, none⟩ = false ∧ w₂.cell? ⟨pb, 6, none⟩ = some t0 ∧ w₂.frozen? ⟨pb, 6, none⟩ = false := by
    intro w₂ h₂
    have c := fun n => cell_of_block (a := ⟨pb, n, none⟩) (h₂.block pb hpi hpd hpz)
    have z := fun n => froz_of_block (a := ⟨pb, n, none⟩) (h₂.block pb hpi hpd hpz)
    refine ⟨?_, ?_, ?_, ?_⟩
    · rw [c, World.cell?_setCell_other _ _ _ _ (by simp)]; exact (fac _ h₁ 3).1.trans hd
    · rw [z, World.frozen?_setCell]; exact (fac _ h₁ 3).2.trans (hz 3 (by omega))
    · rw [c, World.cell?_setCell_other _ _ _ _ (by simp)]; exact (fac _ h₁ 6).1.trans ht
    · rw [z, World.frozen?_setCell]; exact (fac _ h₁ 6).2.trans (hz 6 (by omega))
  refine Ev.regionEnd T ?_
  refine Ev.region T ?_
  simp only [List.size_toArray, List.length_cons, List.length_nil, Nat.reduceAdd, Nat.zero_add, List.range, List.range.loop]
  refine Ev.still T rfl rfl (by decide) (fun w₂ h₂ K' hK' => ?_)
  go_simp
  refine hK' _ (T.read _ _ (fun e he => by have hm := mem_listed he; simp [go_sem] at hm)) ?_
  clear hK' K' h₂ w₂
  try walk_nrm
  refine Ev.still T rfl rfl (by decide) (fun w₂ h₂ K' hK' => ?_)
  go_simp
  refine hK' _ (T.read _ _ (fun e he => by have hm := mem_listed he; simp [go_sem] at hm)) ?_
  clear hK' K' h₂ w₂
  try walk_nrm
  refine Ev.still T rfl rfl (by decide) (fun w₂ h₂ K' hK' => ?_)
  go_simp
  refine hK' _ (T.read _ _ (fun e he => by have hm := mem_listed he; simp [go_sem] at hm)) ?_
  clear hK' K' h₂ w₂
  try walk_nrm
  refine Ev.still T rfl rfl (by decide) (fun w₂ h₂ K' hK' => ?_)
  go_simp
  refine hK' _ (T.read _ _ (fun e he => by have hm := mem_listed he; simp [go_sem] at hm)) ?_
  clear hK' K' h₂ w₂
  try walk_nrm
  refine Ev.still T rfl rfl (by decide) (fun w₂ h₂ K' hK' => ?_)
  have hf0 := (fac2 _ h₂).1
  have hf1 := (fac2 _ h₂).2.1
  go_simp
  refine hK' _ (T.read _ _ (fun e he => by have hm := mem_listed he; simp [go_sem, *] at hm; subst hm; exact M.rd _ hpz)) ?_
  clear hK' K' hf0 hf1 h₂ w₂
  try walk_nrm
  refine .stop fun w₂ r₂ => .inr (.inr ⟨hxs, rfl, #[], by simp, fun w₄ r₄ => step_comm rfl rfl (by decide) (fun w => by simp [go_sem, execOp, rcase, Act.eval]) (fun w => by simp [go_sem, execOp, Act.eval]) w₄, fun w₄ i st e r₄ q1 q2 q3 q4 q5 => ?_⟩)
  have r := r₂.trans r₄
  rw [served_core, Frame.finish_at]
  try walk_nrm
  have T1 := quiet1
  obtain ⟨x, rfl⟩ := hEI _ _ _ _ q5
  refine Ev.still T1 rfl rfl (by decide) (fun w₅ h₅ K' hK' => ?_)
  go_simp
  refine hK' _ (T1.read _ _ (fun e he => by have hm := mem_listed he; simp [go_sem] at hm)) ?_
  clear hK' K' h₅ w₅
  try walk_nrm
  refine Ev.still T1 rfl rfl (by decide) (fun w₅ h₅ K' hK' => ?_)
  go_simp
  refine hK' _ (T1.read _ _ (fun e he => by have hm := mem_listed he; simp [go_sem] at hm)) ?_
  clear hK' K' h₅ w₅
  try walk_nrm
  refine Ev.turn rfl rfl (by decide) (fun w₅ h₅ K' hK' => ?_)
  obtain ⟨d, rfl⟩ := h₅
  have hf0 : (w₄.at d).cell? ⟨pb, 6, none⟩ = some t0 := (fac2 _ r).2.2.1
  have hf1 : (w₄.at d).frozen? ⟨pb, 6, none⟩ = false := (fac2 _ r).2.2.2
  have hes := fun es => events_store Try.prog (w₄.at d) es ⟨pb, 6, none⟩ (.int .i64 x) .plain rfl
  go_simp
  refine hK' _ _ (fun e he => by have hm := mem_listed he; simp [go_sem, hes, storedEv, *] at hm; subst hm; simp [Ev1]) ?_
  clear hK' K'
  try walk_nrm
  refine Ev.regionEnd T1 ?_
  refine Ev.fin T1 ?_
  refine Ev.leave0 T1 (fn := Try.f20) rfl rfl Try.func20 rfl ?_
  exact h w₁ w₄ i st _ h₁ r q1 q2 q3 q4 q5 d
end
end Go.Proofs.Ytnbfmbkglkjhmaa
