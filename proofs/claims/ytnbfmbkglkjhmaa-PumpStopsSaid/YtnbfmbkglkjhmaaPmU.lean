import Derived.Test.YtnbfmbkglkjhmaaPmT
set_option linter.unusedSimpArgs false
set_option linter.unusedVariables false
namespace Go.Proofs.Ytnbfmbkglkjhmaa
open Go.Conc Go.RowKit Go.Pmp
noncomputable def body13 : Code := Try.f13.body.getD .skip
section
variable {main : Bool} {R : World → World → Prop} {D : World → World → Array Event → Prop} {Ok : Event → Prop} {Stop : GW} {b : Frame} {a : Act} {ops : Array Oper} {ii : Nat} {rest : List Nat} {kk : List Item} {cs0 : List Frame} {w : World}
set_option maxRecDepth 100000 in
/-- End. -/
theorem end_no (T : Quiet R D Ok) {pb : Nat} (hrd : ∀ n, Ok ⟨.cell ⟨pb, n, none⟩, false, false⟩) (ho : ∀ w₁, R w w₁ → w₁.cell? ⟨pb, 5, none⟩ = some (.bool false) ∧ w₁.frozen? ⟨pb, 5, none⟩ = false)
    (h : Ev Try.prog main R D Stop (G (b.at (a.put ((ops[ii]?).bind (·.dst)) (.tuple #[.int .i64 0, .bool false])) (.inRegion ops rest :: kk)) cs0) w) :
    Ev Try.prog main R D Stop (G ((base 13).at ⟨#[.pointer (some ⟨pb, 0, none⟩), undef, undef, undef, undef, undef, undef, undef, undef, undef, undef, undef, undef, undef, undef, undef, undef], []⟩ [.code body13]) (b.at a (.inRegion ops (ii :: rest) :: kk) :: cs0)) w := by
  simp only [body13, Try.f13, Option.getD_some]
  refine Ev.seq T ?_
  refine Ev.region T ?_
  simp only [List.size_toArray, List.length_cons, List.length_nil, Nat.reduceAdd, Nat.zero_add, List.range, List.range.loop]
  refine Ev.still T rfl rfl (by decide) (fun w₁ h₁ K' hK' => ?_)
  go_simp
  refine hK' _ (T.read _ _ (fun e he => by have hm := mem_listed he; simp [go_sem] at hm)) ?_
  clear hK' K' h₁ w₁
  try walk_nrm
  refine Ev.still T rfl rfl (by decide) (fun w₁ h₁ K' hK' => ?_)
  go_simp
  refine hK' _ (T.read _ _ (fun e he => by have hm := mem_listed he; simp [go_sem] at hm)) ?_
  clear hK' K' h₁ w₁
  try walk_nrm
  refine Ev.regionEnd T ?_
  refine Ev.seq T ?_
  refine Ev.block T ?_
  refine Ev.seq T ?_
  refine Ev.region T ?_
  simp only [List.size_toArray, List.length_cons, List.length_nil, Nat.reduceAdd, Nat.zero_add, List.range, List.range.loop]
  refine Ev.still T rfl rfl (by decide) (fun w₁ h₁ K' hK' => ?_)
  go_simp
  refine hK' _ (T.read _ _ (fun e he => by have hm := mem_listed he; simp [go_sem] at hm)) ?_
  clear hK' K' h₁ w₁
  try walk_nrm
  refine Ev.still T rfl rfl (by decide) (fun w₁ h₁ K' hK' => ?_)
  go_simp
  refine hK' _ (T.read _ _ (fun e he => by have hm := mem_listed he; simp [go_sem, ev_ptr] at hm)) ?_
  clear hK' K' h₁ w₁
  try walk_nrm
  refine Ev.still T rfl rfl (by decide) (fun w₁ h₁ K' hK' => ?_)
  go_simp
  refine hK' _ (T.read _ _ (fun e he => by have hm := mem_listed he; simp [go_sem] at hm)) ?_
  clear hK' K' h₁ w₁
  try walk_nrm
  refine Ev.regionEnd T ?_
  refine Ev.cond T false rfl ?_
  simp only [if_true, if_false, Bool.false_eq_true, ↓reduceIte]
  refine Ev.seq T ?_
  refine Ev.region T ?_
  simp only [List.size_toArray, List.length_cons, List.length_nil, Nat.reduceAdd, Nat.zero_add, List.range, List.range.loop]
  refine Ev.still T rfl rfl (by decide) (fun w₁ h₁ K' hK' => ?_)
  go_simp
  refine hK' _ (T.read _ _ (fun e he => by have hm := mem_listed he; simp [go_sem] at hm)) ?_
  clear hK' K' h₁ w₁
  try walk_nrm
  refine Ev.still T rfl rfl (by decide) (fun w₁ h₁ K' hK' => ?_)
  go_simp
  refine hK' _ (T.read _ _ (fun e he => by have hm := mem_listed he; simp [go_sem] at hm)) ?_
  clear hK' K' h₁ w₁
  try walk_nrm
  refine Ev.still T rfl rfl (by decide) (fun w₁ h₁ K' hK' => ?_)
  go_simp
  refine hK' _ (T.read _ _ (fun e he => by have hm := mem_listed he; simp [go_sem] at hm)) ?_
  clear hK' K' h₁ w₁
  try walk_nrm
  refine Ev.still T rfl rfl (by decide) (fun w₁ h₁ K' hK' => ?_)
  have hf0 := (ho _ h₁).1
  have hf1 := (ho _ h₁).2
  go_simp
  refine hK' _ (T.read _ _ (fun e he => by have hm := mem_listed he; simp [go_sem, *] at hm; subst hm; exact hrd _)) ?_
  clear hK' K' hf0 hf1 h₁ w₁
  try walk_nrm
  refine Ev.still T rfl rfl (by decide) (fun w₁ h₁ K' hK' => ?_)
  go_simp
  refine hK' _ (T.read _ _ (fun e he => by have hm := mem_listed he; simp [go_sem] at hm)) ?_
  clear hK' K' h₁ w₁
  try walk_nrm
  refine Ev.still T rfl rfl (by decide) (fun w₁ h₁ K' hK' => ?_)
  go_simp
  refine hK' _ (T.read _ _ (fun e he => by have hm := mem_listed he; simp [go_sem] at hm)) ?_
  clear hK' K' h₁ w₁
  try walk_nrm
  refine Ev.regionEnd T ?_
  refine Ev.cond T true rfl ?_
  simp only [if_true, if_false, Bool.false_eq_true, ↓reduceIte]
  refine Ev.seq T ?_
  refine Ev.region T ?_
  simp only [List.size_toArray, List.length_cons, List.length_nil, Nat.reduceAdd, Nat.zero_add, List.range, List.range.loop]
  refine Ev.still T rfl rfl (by decide) (fun w₁ h₁ K' hK' => ?_)
  go_simp
  refine hK' _ (T.read _ _ (fun e he => by have hm := mem_listed he; simp [go_sem] at hm)) ?_
  clear hK' K' h₁ w₁
  try walk_nrm
  refine Ev.still T rfl rfl (by decide) (fun w₁ h₁ K' hK' => ?_)
  go_simp
  refine hK' _ (T.read _ _ (fun e he => by have hm := mem_listed he; simp [go_sem] at hm)) ?_
  clear hK' K' h₁ w₁
  try walk_nrm
  refine Ev.regionEnd T ?_
  refine Ev.ret T ?_
  refine Ev.leave2 T (fn := Try.f13) rfl rfl Try.func13 rfl ?_
  exact h
set_option maxRecDepth 100000 in
/-- End. -/
theorem end_yes (T : Quiet R D Ok) {pb : Nat} (hrd : ∀ n, Ok ⟨.cell ⟨pb, n, none⟩, false, false⟩) {e : Int} (ho : ∀ w₁, R w w₁ → w₁.cell? ⟨pb, 5, none⟩ = some (.bool true) ∧ w₁.frozen? ⟨pb, 5, none⟩ = false) (ht : ∀ w₁, R w w₁ → w₁.cell? ⟨pb, 6, none⟩ = some (.int .i64 e) ∧ w₁.frozen? ⟨pb, 6, none⟩ = false)
    (h : Ev Try.prog main R D Stop (G (b.at (a.put ((ops[ii]?).bind (·.dst)) (.tuple #[.int .i64 e, .bool true])) (.inRegion ops rest :: kk)) cs0) w) :
    Ev Try.prog main R D Stop (G ((base 13).at ⟨#[.pointer (some ⟨pb, 0, none⟩), undef, undef, undef, undef, undef, undef, undef, undef, undef, undef, undef, undef, undef, undef, undef, undef], []⟩ [.code body13]) (b.at a (.inRegion ops (ii :: rest) :: kk) :: cs0)) w := by
  simp only [body13, Try.f13, Option.getD_some]
  refine Ev.seq T ?_
  refine Ev.region T ?_
  simp only [List.size_toArray, List.length_cons, List.length_nil, Nat.reduceAdd, Nat.zero_add, List.range, List.range.loop]
  refine Ev.still T rfl rfl (by decide) (fun w₁ h₁ K' hK' => ?_)
  go_simp
  refine hK' _ (T.read _ _ (fun e he => by have hm := mem_listed he; simp [go_sem] at hm)) ?_
  clear hK' K' h₁ w₁
  try walk_nrm
  refine Ev.still T rfl rfl (by decide) (fun w₁ h₁ K' hK' => ?_)
  go_simp
  refine hK' _ (T.read _ _ (fun e he => by have hm := mem_listed he; simp [go_sem] at hm)) ?_
  clear hK' K' h₁ w₁
  try walk_nrm
  refine Ev.regionEnd T ?_
  refine Ev.seq T ?_
  refine Ev.block T ?_
  refine Ev.seq T ?_
  refine Ev.region T ?_
  simp only [List.size_toArray, List.length_cons, List.length_nil, Nat.reduceAdd, Nat.zero_add, List.range, List.range.loop]
  refine Ev.still T rfl rfl (by decide) (fun w₁ h₁ K' hK' => ?_)
  go_simp
  refine hK' _ (T.read _ _ (fun e he => by have hm := mem_listed he; simp [go_sem] at hm)) ?_
  clear hK' K' h₁ w₁
  try walk_nrm
  refine Ev.still T rfl rfl (by decide) (fun w₁ h₁ K' hK' => ?_)
  go_simp
  refine hK' _ (T.read _ _ (fun e he => by have hm := mem_listed he; simp [go_sem, ev_ptr] at hm)) ?_
  clear hK' K' h₁ w₁
  try walk_nrm
  refine Ev.still T rfl rfl (by decide) (fun w₁ h₁ K' hK' => ?_)
  go_simp
  refine hK' _ (T.read _ _ (fun e he => by have hm := mem_listed he; simp [go_sem] at hm)) ?_
  clear hK' K' h₁ w₁
  try walk_nrm
  refine Ev.regionEnd T ?_
  refine Ev.cond T false rfl ?_
  simp only [if_true, if_false, Bool.false_eq_true, ↓reduceIte]
  refine Ev.seq T ?_
  refine Ev.region T ?_
  simp only [List.size_toArray, List.length_cons, List.length_nil, Nat.reduceAdd, Nat.zero_add, List.range, List.range.loop]
  refine Ev.still T rfl rfl (by decide) (fun w₁ h₁ K' hK' => ?_)
  go_simp
  refine hK' _ (T.read _ _ (fun e he => by have hm := mem_listed he; simp [go_sem] at hm)) ?_
  clear hK' K' h₁ w₁
  try walk_nrm
  refine Ev.still T rfl rfl (by decide) (fun w₁ h₁ K' hK' => ?_)
  go_simp
  refine hK' _ (T.read _ _ (fun e he => by have hm := mem_listed he; simp [go_sem] at hm)) ?_
  clear hK' K' h₁ w₁
  try walk_nrm
  refine Ev.still T rfl rfl (by decide) (fun w₁ h₁ K' hK' => ?_)
  go_simp
  refine hK' _ (T.read _ _ (fun e he => by have hm := mem_listed he; simp [go_sem] at hm)) ?_
  clear hK' K' h₁ w₁
  try walk_nrm
  refine Ev.still T rfl rfl (by decide) (fun w₁ h₁ K' hK' => ?_)
  have hf0 := (ho _ h₁).1
  have hf1 := (ho _ h₁).2
  go_simp
  refine hK' _ (T.read _ _ (fun e he => by have hm := mem_listed he; simp [go_sem, *] at hm; subst hm; exact hrd _)) ?_
  clear hK' K' hf0 hf1 h₁ w₁
  try walk_nrm
  refine Ev.still T rfl rfl (by decide) (fun w₁ h₁ K' hK' => ?_)
  go_simp
  refine hK' _ (T.read _ _ (fun e he => by have hm := mem_listed he; simp [go_sem] at hm)) ?_
  clear hK' K' h₁ w₁
  try walk_nrm
  refine Ev.still T rfl rfl (by decide) (fun w₁ h₁ K' hK' => ?_)
  go_simp
  refine hK' _ (T.read _ _ (fun e he => by have hm := mem_listed he; simp [go_sem] at hm)) ?_
  clear hK' K' h₁ w₁
  try walk_nrm
  refine Ev.regionEnd T ?_
  refine Ev.cond T false rfl ?_
  simp only [if_true, if_false, Bool.false_eq_true, ↓reduceIte]
  refine Ev.skip T ?_
  refine Ev.inBlock T ?_
  refine Ev.seq T ?_
  refine Ev.region T ?_
  simp only [List.size_toArray, List.length_cons, List.length_nil, Nat.reduceAdd, Nat.zero_add, List.range, List.range.loop]
  refine Ev.still T rfl rfl (by decide) (fun w₁ h₁ K' hK' => ?_)
  go_simp
  refine hK' _ (T.read _ _ (fun e he => by have hm := mem_listed he; simp [go_sem] at hm)) ?_
  clear hK' K' h₁ w₁
  try walk_nrm
  refine Ev.still T rfl rfl (by decide) (fun w₁ h₁ K' hK' => ?_)
  go_simp
  refine hK' _ (T.read _ _ (fun e he => by have hm := mem_listed he; simp [go_sem] at hm)) ?_
  clear hK' K' h₁ w₁
  try walk_nrm
  refine Ev.still T rfl rfl (by decide) (fun w₁ h₁ K' hK' => ?_)
  go_simp
  refine hK' _ (T.read _ _ (fun e he => by have hm := mem_listed he; simp [go_sem] at hm)) ?_
  clear hK' K' h₁ w₁
  try walk_nrm
  refine Ev.still T rfl rfl (by decide) (fun w₁ h₁ K' hK' => ?_)
  have hf0 := (ht _ h₁).1
  have hf1 := (ht _ h₁).2
  go_simp
  refine hK' _ (T.read _ _ (fun e he => by have hm := mem_listed he; simp [go_sem, *] at hm; subst hm; exact hrd _)) ?_
  clear hK' K' hf0 hf1 h₁ w₁
  try walk_nrm
  refine Ev.still T rfl rfl (by decide) (fun w₁ h₁ K' hK' => ?_)
  go_simp
  refine hK' _ (T.read _ _ (fun e he => by have hm := mem_listed he; simp [go_sem] at hm)) ?_
  clear hK' K' h₁ w₁
  try walk_nrm
  refine Ev.still T rfl rfl (by decide) (fun w₁ h₁ K' hK' => ?_)
  go_simp
  refine hK' _ (T.read _ _ (fun e he => by have hm := mem_listed he; simp [go_sem] at hm)) ?_
  clear hK' K' h₁ w₁
  try walk_nrm
  refine Ev.regionEnd T ?_
  refine Ev.ret T ?_
  refine Ev.leave2 T (fn := Try.f13) rfl rfl Try.func13 rfl ?_
  exact h
set_option maxRecDepth 100000 in
theorem next_over (T : Quiet R D Ok) {pb : Nat} (hrd : ∀ n, Ok ⟨.cell ⟨pb, n, none⟩, false, false⟩) (ho : ∀ w₁, R w w₁ → w₁.cell? ⟨pb, 5, none⟩ = some (.bool true) ∧ w₁.frozen? ⟨pb, 5, none⟩ = false)
    (h : Ev Try.prog main R D Stop (G (b.at (a.put ((ops[ii]?).bind (·.dst)) (.tuple #[.int .i64 0, .bool false])) (.inRegion ops rest :: kk)) cs0) w) :
    Ev Try.prog main R D Stop (G ((base 10).at ⟨#[.pointer (some ⟨pb, 0, none⟩), undef, undef, undef, undef, undef, undef, undef, undef, undef, undef, undef, undef, undef, undef, undef, undef, undef, undef, undef, undef, undef, undef, undef, undef, undef, undef, undef, undef], []⟩ [.code body10]) (b.at a (.inRegion ops (ii :: rest) :: kk) :: cs0)) w := by
  simp only [body10, Try.f10, Option.getD_some]
  refine Ev.seq T ?_
  refine Ev.region T ?_
  simp only [List.size_toArray, List.length_cons, List.length_nil, Nat.reduceAdd, Nat.zero_add, List.range, List.range.loop]
  refine Ev.still T rfl rfl (by decide) (fun w₁ h₁ K' hK' => ?_)
  go_simp
  refine hK' _ (T.read _ _ (fun e he => by have hm := mem_listed he; simp [go_sem] at hm)) ?_
  clear hK' K' h₁ w₁
  try walk_nrm
  refine Ev.still T rfl rfl (by decide) (fun w₁ h₁ K' hK' => ?_)
  go_simp
  refine hK' _ (T.read _ _ (fun e he => by have hm := mem_listed he; simp [go_sem] at hm)) ?_
  clear hK' K' h₁ w₁
  try walk_nrm
  refine Ev.regionEnd T ?_
  refine Ev.seq T ?_
  refine Ev.seq T ?_
  refine Ev.region T ?_
  simp only [List.size_toArray, List.length_cons, List.length_nil, Nat.reduceAdd, Nat.zero_add, List.range, List.range.loop]
  refine Ev.still T rfl rfl (by decide) (fun w₁ h₁ K' hK' => ?_)
  go_simp
  refine hK' _ (T.read _ _ (fun e he => by have hm := mem_listed he; simp [go_sem] at hm)) ?_
  clear hK' K' h₁ w₁
  try walk_nrm
  refine Ev.still T rfl rfl (by decide) (fun w₁ h₁ K' hK' => ?_)
  go_simp
  refine hK' _ (T.read _ _ (fun e he => by have hm := mem_listed he; simp [go_sem, ev_ptr] at hm)) ?_
  clear hK' K' h₁ w₁
  try walk_nrm
  refine Ev.still T rfl rfl (by decide) (fun w₁ h₁ K' hK' => ?_)
  go_simp
  refine hK' _ (T.read _ _ (fun e he => by have hm := mem_listed he; simp [go_sem] at hm)) ?_
  clear hK' K' h₁ w₁
  try walk_nrm
  refine Ev.still T rfl rfl (by decide) (fun w₁ h₁ K' hK' => ?_)
  go_simp
  refine hK' _ (T.read _ _ (fun e he => by have hm := mem_listed he; simp [go_sem] at hm)) ?_
  clear hK' K' h₁ w₁
  try walk_nrm
  refine Ev.still T rfl rfl (by decide) (fun w₁ h₁ K' hK' => ?_)
  go_simp
  refine hK' _ (T.read _ _ (fun e he => by have hm := mem_listed he; simp [go_sem] at hm)) ?_
  clear hK' K' h₁ w₁
  try walk_nrm
  refine Ev.still T rfl rfl (by decide) (fun w₁ h₁ K' hK' => ?_)
  go_simp
  refine hK' _ (T.read _ _ (fun e he => by have hm := mem_listed he; simp [go_sem] at hm)) ?_
  clear hK' K' h₁ w₁
  try walk_nrm
  refine Ev.still T rfl rfl (by decide) (fun w₁ h₁ K' hK' => ?_)
  have hf0 := (ho _ h₁).1
  have hf1 := (ho _ h₁).2
  go_simp
  refine hK' _ (T.read _ _ (fun e he => by have hm := mem_listed he; simp [go_sem, *] at hm; subst hm; exact hrd _)) ?_
  clear hK' K' hf0 hf1 h₁ w₁
  try walk_nrm
  refine Ev.still T rfl rfl (by decide) (fun w₁ h₁ K' hK' => ?_)
  go_simp
  refine hK' _ (T.read _ _ (fun e he => by have hm := mem_listed he; simp [go_sem] at hm)) ?_
  clear hK' K' h₁ w₁
  try walk_nrm
  refine Ev.regionEnd T ?_
  refine Ev.cond T true rfl ?_
  simp only [if_true, if_false, Bool.false_eq_true, ↓reduceIte]
  refine Ev.seq T ?_
  refine Ev.region T ?_
  simp only [List.size_toArray, List.length_cons, List.length_nil, Nat.reduceAdd, Nat.zero_add, List.range, List.range.loop]
  refine Ev.still T rfl rfl (by decide) (fun w₁ h₁ K' hK' => ?_)
  go_simp
  refine hK' _ (T.read _ _ (fun e he => by have hm := mem_listed he; simp [go_sem] at hm)) ?_
  clear hK' K' h₁ w₁
  try walk_nrm
  refine Ev.still T rfl rfl (by decide) (fun w₁ h₁ K' hK' => ?_)
  go_simp
  refine hK' _ (T.read _ _ (fun e he => by have hm := mem_listed he; simp [go_sem] at hm)) ?_
  clear hK' K' h₁ w₁
  try walk_nrm
  refine Ev.still T rfl rfl (by decide) (fun w₁ h₁ K' hK' => ?_)
  go_simp
  refine hK' _ (T.read _ _ (fun e he => by have hm := mem_listed he; simp [go_sem] at hm)) ?_
  clear hK' K' h₁ w₁
  try walk_nrm
  refine Ev.regionEnd T ?_
  refine Ev.ret T ?_
  refine Ev.leave2 T (fn := Try.f10) rfl rfl Try.func10 rfl ?_
  exact h
set_option maxRecDepth 100000 in
theorem stop_over (T : Quiet R D Ok) {pb : Nat} (hrd : ∀ n, Ok ⟨.cell ⟨pb, n, none⟩, false, false⟩) (ho : ∀ w₁, R w w₁ → w₁.cell? ⟨pb, 5, none⟩ = some (.bool true) ∧ w₁.frozen? ⟨pb, 5, none⟩ = false)
    (h : Ev Try.prog main R D Stop (G (b.at (a.put ((ops[ii]?).bind (·.dst)) (.int .i64 14)) (.inRegion ops rest :: kk)) cs0) w) :
    Ev Try.prog main R D Stop (G ((base 12).at ⟨#[.pointer (some ⟨pb, 0, none⟩), undef, undef, undef, undef, undef, undef, undef, undef, undef, undef, undef, undef, undef, undef, undef, undef, undef, undef], []⟩ [.code body12]) (b.at a (.inRegion ops (ii :: rest) :: kk) :: cs0)) w := by
  simp only [body12, Try.f12, Option.getD_some]
  refine Ev.seq T ?_
  refine Ev.region T ?_
  simp only [List.size_toArray, List.length_cons, List.length_nil, Nat.reduceAdd, Nat.zero_add, List.range, List.range.loop]
  refine Ev.still T rfl rfl (by decide) (fun w₁ h₁ K' hK' => ?_)
  go_simp
  refine hK' _ (T.read _ _ (fun e he => by have hm := mem_listed he; simp [go_sem] at hm)) ?_
  clear hK' K' h₁ w₁
  try walk_nrm
  refine Ev.regionEnd T ?_
  refine Ev.seq T ?_
  refine Ev.block T ?_
  refine Ev.seq T ?_
  refine Ev.region T ?_
  simp only [List.size_toArray, List.length_cons, List.length_nil, Nat.reduceAdd, Nat.zero_add, List.range, List.range.loop]
  refine Ev.still T rfl rfl (by decide) (fun w₁ h₁ K' hK' => ?_)
  go_simp
  refine hK' _ (T.read _ _ (fun e he => by have hm := mem_listed he; simp [go_sem] at hm)) ?_
  clear hK' K' h₁ w₁
  try walk_nrm
  refine Ev.still T rfl rfl (by decide) (fun w₁ h₁ K' hK' => ?_)
  go_simp
  refine hK' _ (T.read _ _ (fun e he => by have hm := mem_listed he; simp [go_sem, ev_ptr] at hm)) ?_
  clear hK' K' h₁ w₁
  try walk_nrm
  refine Ev.still T rfl rfl (by decide) (fun w₁ h₁ K' hK' => ?_)
  go_simp
  refine hK' _ (T.read _ _ (fun e he => by have hm := mem_listed he; simp [go_sem] at hm)) ?_
  clear hK' K' h₁ w₁
  try walk_nrm
  refine Ev.regionEnd T ?_
  refine Ev.cond T false rfl ?_
  simp only [if_true, if_false, Bool.false_eq_true, ↓reduceIte]
  refine Ev.seq T ?_
  refine Ev.region T ?_
  simp only [List.size_toArray, List.length_cons, List.length_nil, Nat.reduceAdd, Nat.zero_add, List.range, List.range.loop]
  refine Ev.still T rfl rfl (by decide) (fun w₁ h₁ K' hK' => ?_)
  go_simp
  refine hK' _ (T.read _ _ (fun e he => by have hm := mem_listed he; simp [go_sem] at hm)) ?_
  clear hK' K' h₁ w₁
  try walk_nrm
  refine Ev.still T rfl rfl (by decide) (fun w₁ h₁ K' hK' => ?_)
  go_simp
  refine hK' _ (T.read _ _ (fun e he => by have hm := mem_listed he; simp [go_sem] at hm)) ?_
  clear hK' K' h₁ w₁
  try walk_nrm
  refine Ev.still T rfl rfl (by decide) (fun w₁ h₁ K' hK' => ?_)
  go_simp
  refine hK' _ (T.read _ _ (fun e he => by have hm := mem_listed he; simp [go_sem] at hm)) ?_
  clear hK' K' h₁ w₁
  try walk_nrm
  refine Ev.still T rfl rfl (by decide) (fun w₁ h₁ K' hK' => ?_)
  have hf0 := (ho _ h₁).1
  have hf1 := (ho _ h₁).2
  go_simp
  refine hK' _ (T.read _ _ (fun e he => by have hm := mem_listed he; simp [go_sem, *] at hm; subst hm; exact hrd _)) ?_
  clear hK' K' hf0 hf1 h₁ w₁
  try walk_nrm
  refine Ev.still T rfl rfl (by decide) (fun w₁ h₁ K' hK' => ?_)
  go_simp
  refine hK' _ (T.read _ _ (fun e he => by have hm := mem_listed he; simp [go_sem] at hm)) ?_
  clear hK' K' h₁ w₁
  try walk_nrm
  refine Ev.regionEnd T ?_
  refine Ev.cond T true rfl ?_
  simp only [if_true, if_false, Bool.false_eq_true, ↓reduceIte]
  refine Ev.seq T ?_
  refine Ev.region T ?_
  simp only [List.size_toArray, List.length_cons, List.length_nil, Nat.reduceAdd, Nat.zero_add, List.range, List.range.loop]
  refine Ev.still T rfl rfl (by decide) (fun w₁ h₁ K' hK' => ?_)
  go_simp
  refine hK' _ (T.read _ _ (fun e he => by have hm := mem_listed he; simp [go_sem] at hm)) ?_
  clear hK' K' h₁ w₁
  try walk_nrm
  refine Ev.regionEnd T ?_
  refine Ev.ret T ?_
  refine Ev.leave1 T (fn := Try.f12) rfl rfl Try.func12 rfl ?_
  exact h
end
end Go.Proofs.Ytnbfmbkglkjhmaa
