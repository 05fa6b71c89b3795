import Derived.Test.YtnbfmbkglkjhmaaPmV
set_option linter.unusedSimpArgs false
set_option linter.unusedVariables false
set_option linter.unusedSectionVars false
namespace Go.Proofs.Ytnbfmbkglkjhmaa
open Go.Conc Go.RowKit Go.Pmp

noncomputable def ops10 : Array Oper := match body10 with | .seq _ (.seq _ (.seq (.region _ o _) _)) => o | _ => #[]
noncomputable def rest10 : Code := match body10 with | .seq _ (.seq _ (.seq _ y)) => y | c => c
abbrev slots10 (pb : Nat) : Array Value := #[.pointer (some ⟨pb, 0, none⟩), undef, .int .i64 0, .bool false, .pointer (some ⟨pb, 0, none⟩), .bool false, .bool false, .pointer (some ⟨pb, 0, none⟩), .pointer (some ⟨pb, 0, none⟩), .pointer (some ⟨pb, 5, none⟩), .bool false, .bool false, undef, .pointer (some ⟨pb, 0, none⟩), undef, undef, undef, undef, undef, undef, undef, undef, undef, undef, undef, undef, undef, undef, undef]
noncomputable def ops12 : Array Oper := match body12 with | .seq _ (.seq _ (.seq (.region _ o _) _)) => o | _ => #[]
noncomputable def rest12 : Code := match body12 with | .seq _ (.seq _ (.seq _ y)) => y | c => c
abbrev slots12 (pb : Nat) : Array Value := #[.pointer (some ⟨pb, 0, none⟩), undef, .int .i64 0, .bool false, .pointer (some ⟨pb, 0, none⟩), .bool false, .bool false, .pointer (some ⟨pb, 0, none⟩), .pointer (some ⟨pb, 0, none⟩), .pointer (some ⟨pb, 5, none⟩), .bool false, .pointer (some ⟨pb, 0, none⟩), undef, undef, undef, undef, undef, undef, undef]

section
variable {main : Bool} {R : World → World → Prop} {D : World → World → Array Event → Prop} {Ok : Event → Prop} {Stop : GW} {b : Frame} {a : Act} {ops : Array Oper} {ii : Nat} {rest : List Nat} {kk : List Item} {cs0 : List Frame} {w : World}
set_option maxRecDepth 100000 in
/-- Next, up to the call of begin. -/
theorem next_head (T : Quiet R D Ok) {pb : Nat} (hrd : ∀ n, Ok ⟨.cell ⟨pb, n, none⟩, false, false⟩) (ho : ∀ w₁, R w w₁ → w₁.cell? ⟨pb, 5, none⟩ = some (.bool false) ∧ w₁.frozen? ⟨pb, 5, none⟩ = false)
    (h : Ev Try.prog main R D Stop (G ((base 19).at ⟨#[.pointer (some ⟨pb, 0, none⟩), undef, undef, undef, undef, undef, undef, undef, undef, undef], []⟩ [.code body19]) ((base 10).at ⟨slots10 pb, []⟩ [.inRegion ops10 [1], .code rest10] :: b.at a (.inRegion ops (ii :: rest) :: kk) :: cs0)) w) :
    Ev Try.prog main R D Stop (G ((base 10).at ⟨#[.pointer (some ⟨pb, 0, none⟩), undef, undef, undef, undef, undef, undef, undef, undef, undef, undef, undef, undef, undef, undef, undef, undef, undef, undef, undef, undef, undef, undef, undef, undef, undef, undef, undef, undef], []⟩ [.code body10]) (b.at a (.inRegion ops (ii :: rest) :: kk) :: cs0)) w := by
  simp only [ops10, rest10, body10, Try.f10, Option.getD_some] at h ⊢
  refine Ev.seq T ?_
  refine Ev.region T ?_
  simp only [List.size_toArray, List.length_cons, List.length_nil, Nat.reduceAdd, Nat.zero_add, List.range, List.range.loop]
  refine Ev.still T rfl rfl (by decide) (fun w₁ h₁ K' hK' => ?_)
  go_simp
  refine hK' _ (T.read _ _ (fun e he => by have hm := mem_listed he; simp [go_sem] at hm)) ?_
  clear hK' K' h₁ w₁
  try walk_nrm
  refine Ev.still T rfl rfl (by decide) (fun w₁ h₁ K' hK' => ?_)
  go_simp
  refine hK' _ (T.read _ _ (fun e he => by have hm := mem_listed he; simp [go_sem] at hm)) ?_
  clear hK' K' h₁ w₁
  try walk_nrm
  refine Ev.regionEnd T ?_
  refine Ev.seq T ?_
  refine Ev.seq T ?_
  refine Ev.region T ?_
  simp only [List.size_toArray, List.length_cons, List.length_nil, Nat.reduceAdd, Nat.zero_add, List.range, List.range.loop]
  refine Ev.still T rfl rfl (by decide) (fun w₁ h₁ K' hK' => ?_)
  go_simp
  refine hK' _ (T.read _ _ (fun e he => by have hm := mem_listed he; simp [go_sem] at hm)) ?_
  clear hK' K' h₁ w₁
  try walk_nrm
  refine Ev.still T rfl rfl (by decide) (fun w₁ h₁ K' hK' => ?_)
  go_simp
  refine hK' _ (T.read _ _ (fun e he => by have hm := mem_listed he; simp [go_sem, ev_ptr] at hm)) ?_
  clear hK' K' h₁ w₁
  try walk_nrm
  refine Ev.still T rfl rfl (by decide) (fun w₁ h₁ K' hK' => ?_)
  go_simp
  refine hK' _ (T.read _ _ (fun e he => by have hm := mem_listed he; simp [go_sem] at hm)) ?_
  clear hK' K' h₁ w₁
  try walk_nrm
  refine Ev.still T rfl rfl (by decide) (fun w₁ h₁ K' hK' => ?_)
  go_simp
  refine hK' _ (T.read _ _ (fun e he => by have hm := mem_listed he; simp [go_sem] at hm)) ?_
  clear hK' K' h₁ w₁
  try walk_nrm
  refine Ev.still T rfl rfl (by decide) (fun w₁ h₁ K' hK' => ?_)
  go_simp
  refine hK' _ (T.read _ _ (fun e he => by have hm := mem_listed he; simp [go_sem] at hm)) ?_
  clear hK' K' h₁ w₁
  try walk_nrm
  refine Ev.still T rfl rfl (by decide) (fun w₁ h₁ K' hK' => ?_)
  go_simp
  refine hK' _ (T.read _ _ (fun e he => by have hm := mem_listed he; simp [go_sem] at hm)) ?_
  clear hK' K' h₁ w₁
  try walk_nrm
  refine Ev.still T rfl rfl (by decide) (fun w₁ h₁ K' hK' => ?_)
  have hf0 := (ho _ h₁).1
  have hf1 := (ho _ h₁).2
  go_simp
  refine hK' _ (T.read _ _ (fun e he => by have hm := mem_listed he; simp [go_sem, *] at hm; subst hm; exact hrd _)) ?_
  clear hK' K' hf0 hf1 h₁ w₁
  try walk_nrm
  refine Ev.still T rfl rfl (by decide) (fun w₁ h₁ K' hK' => ?_)
  go_simp
  refine hK' _ (T.read _ _ (fun e he => by have hm := mem_listed he; simp [go_sem] at hm)) ?_
  clear hK' K' h₁ w₁
  try walk_nrm
  refine Ev.regionEnd T ?_
  refine Ev.cond T false rfl ?_
  simp only [if_true, if_false, Bool.false_eq_true, ↓reduceIte]
  refine Ev.skip T ?_
  refine Ev.seq T ?_
  refine Ev.region T ?_
  simp only [List.size_toArray, List.length_cons, List.length_nil, Nat.reduceAdd, Nat.zero_add, List.range, List.range.loop]
  refine Ev.still T rfl rfl (by decide) (fun w₁ h₁ K' hK' => ?_)
  go_simp
  refine hK' _ (T.read _ _ (fun e he => by have hm := mem_listed he; simp [go_sem] at hm)) ?_
  clear hK' K' h₁ w₁
  try walk_nrm
  refine Ev.call T (f := 19) (fn := Try.f19) rfl rfl (by decide) rfl Try.func19 (by decide) f19_body ?_
  simp only [List.map_toArray, List.map_cons, List.map_nil]
  rw [args19]
  try walk_nrm
  exact h

set_option maxRecDepth 100000 in
/-- Stop, up to the call of begin. -/
theorem stop_head (T : Quiet R D Ok) {pb : Nat} (hrd : ∀ n, Ok ⟨.cell ⟨pb, n, none⟩, false, false⟩) (ho : ∀ w₁, R w w₁ → w₁.cell? ⟨pb, 5, none⟩ = some (.bool false) ∧ w₁.frozen? ⟨pb, 5, none⟩ = false)
    (h : Ev Try.prog main R D Stop (G ((base 19).at ⟨#[.pointer (some ⟨pb, 0, none⟩), undef, undef, undef, undef, undef, undef, undef, undef, undef], []⟩ [.code body19]) ((base 12).at ⟨slots12 pb, []⟩ [.inRegion ops12 [1], .code rest12] :: b.at a (.inRegion ops (ii :: rest) :: kk) :: cs0)) w) :
    Ev Try.prog main R D Stop (G ((base 12).at ⟨#[.pointer (some ⟨pb, 0, none⟩), undef, undef, undef, undef, undef, undef, undef, undef, undef, undef, undef, undef, undef, undef, undef, undef, undef, undef], []⟩ [.code body12]) (b.at a (.inRegion ops (ii :: rest) :: kk) :: cs0)) w := by
  simp only [ops12, rest12, body12, Try.f12, Option.getD_some] at h ⊢
  refine Ev.seq T ?_
  refine Ev.region T ?_
  simp only [List.size_toArray, List.length_cons, List.length_nil, Nat.reduceAdd, Nat.zero_add, List.range, List.range.loop]
  refine Ev.still T rfl rfl (by decide) (fun w₁ h₁ K' hK' => ?_)
  go_simp
  refine hK' _ (T.read _ _ (fun e he => by have hm := mem_listed he; simp [go_sem] at hm)) ?_
  clear hK' K' h₁ w₁
  try walk_nrm
  refine Ev.regionEnd T ?_
  refine Ev.seq T ?_
  refine Ev.block T ?_
  refine Ev.seq T ?_
  refine Ev.region T ?_
  simp only [List.size_toArray, List.length_cons, List.length_nil, Nat.reduceAdd, Nat.zero_add, List.range, List.range.loop]
  refine Ev.still T rfl rfl (by decide) (fun w₁ h₁ K' hK' => ?_)
  go_simp
  refine hK' _ (T.read _ _ (fun e he => by have hm := mem_listed he; simp [go_sem] at hm)) ?_
  clear hK' K' h₁ w₁
  try walk_nrm
  refine Ev.still T rfl rfl (by decide) (fun w₁ h₁ K' hK' => ?_)
  go_simp
  refine hK' _ (T.read _ _ (fun e he => by have hm := mem_listed he; simp [go_sem, ev_ptr] at hm)) ?_
  clear hK' K' h₁ w₁
  try walk_nrm
  refine Ev.still T rfl rfl (by decide) (fun w₁ h₁ K' hK' => ?_)
  go_simp
  refine hK' _ (T.read _ _ (fun e he => by have hm := mem_listed he; simp [go_sem] at hm)) ?_
  clear hK' K' h₁ w₁
  try walk_nrm
  refine Ev.regionEnd T ?_
  refine Ev.cond T false rfl ?_
  simp only [if_true, if_false, Bool.false_eq_true, ↓reduceIte]
  refine Ev.seq T ?_
  refine Ev.region T ?_
  simp only [List.size_toArray, List.length_cons, List.length_nil, Nat.reduceAdd, Nat.zero_add, List.range, List.range.loop]
  refine Ev.still T rfl rfl (by decide) (fun w₁ h₁ K' hK' => ?_)
  go_simp
  refine hK' _ (T.read _ _ (fun e he => by have hm := mem_listed he; simp [go_sem] at hm)) ?_
  clear hK' K' h₁ w₁
  try walk_nrm
  refine Ev.still T rfl rfl (by decide) (fun w₁ h₁ K' hK' => ?_)
  go_simp
  refine hK' _ (T.read _ _ (fun e he => by have hm := mem_listed he; simp [go_sem] at hm)) ?_
  clear hK' K' h₁ w₁
  try walk_nrm
  refine Ev.still T rfl rfl (by decide) (fun w₁ h₁ K' hK' => ?_)
  go_simp
  refine hK' _ (T.read _ _ (fun e he => by have hm := mem_listed he; simp [go_sem] at hm)) ?_
  clear hK' K' h₁ w₁
  try walk_nrm
  refine Ev.still T rfl rfl (by decide) (fun w₁ h₁ K' hK' => ?_)
  have hf0 := (ho _ h₁).1
  have hf1 := (ho _ h₁).2
  go_simp
  refine hK' _ (T.read _ _ (fun e he => by have hm := mem_listed he; simp [go_sem, *] at hm; subst hm; exact hrd _)) ?_
  clear hK' K' hf0 hf1 h₁ w₁
  try walk_nrm
  refine Ev.still T rfl rfl (by decide) (fun w₁ h₁ K' hK' => ?_)
  go_simp
  refine hK' _ (T.read _ _ (fun e he => by have hm := mem_listed he; simp [go_sem] at hm)) ?_
  clear hK' K' h₁ w₁
  try walk_nrm
  refine Ev.regionEnd T ?_
  refine Ev.cond T false rfl ?_
  simp only [if_true, if_false, Bool.false_eq_true, ↓reduceIte]
  refine Ev.skip T ?_
  refine Ev.inBlock T ?_
  refine Ev.seq T ?_
  refine Ev.region T ?_
  simp only [List.size_toArray, List.length_cons, List.length_nil, Nat.reduceAdd, Nat.zero_add, List.range, List.range.loop]
  refine Ev.still T rfl rfl (by decide) (fun w₁ h₁ K' hK' => ?_)
  go_simp
  refine hK' _ (T.read _ _ (fun e he => by have hm := mem_listed he; simp [go_sem] at hm)) ?_
  clear hK' K' h₁ w₁
  try walk_nrm
  refine Ev.call T (f := 19) (fn := Try.f19) rfl rfl (by decide) rfl Try.func19 (by decide) f19_body ?_
  simp only [List.map_toArray, List.map_cons, List.map_nil]
  rw [args19]
  try walk_nrm
  exact h
end

section
variable {Z : Nat → Prop} {top j ci cs cd room : Nat} {f : Nat → Value} {Q : Nat → Prop} {End : Nat → Bool → Value → World → Prop} {C : Addr → Prop} {S1 : GW} {N : Nat}
set_option maxRecDepth 100000 in
set_option maxHeartbeats 2000000 in
/-- Next, behind begin, beside the maker. -/
theorem next_tail (O : (envC Z top j ci cs cd room f Q End C).Ok) (M : Main Z ci cs cd N C (RMx Z ci cd) (DM (envC Z top j ci cs cd room f Q End C)) (EvM (fun l => l = .obj ci ∨ ∃ a : Addr, Z a.block ∧ l = .cell a) (fun l => ∃ a, C a ∧ l = .cell a))) {pb k r : Nat} (hpz : ¬ Z pb) (hpi : pb ≠ ci) (hps : pb ≠ cs) (hpd : pb ≠ cd) (hC5 : ¬ C ⟨pb, 5, none⟩) (hEI : ∀ i st e w, End i st e w → ∃ x, e = .int .i64 x) (htop : r < top)
    {b : Frame} {a : Act} {ops : Array Oper} {ii : Nat} {rest : List Nat} {kk : List Item} {cs0 : List Frame} {w : World} (hpb : pb < w.heap.size) (hp : PumpAt pb ci cs cd w)
    (ho : w.cell? ⟨pb, 5, none⟩ = some (.bool false)) (hz : ∀ n, n < 7 → w.frozen? ⟨pb, n, none⟩ = false) {t0 : Value} (ht : w.cell? ⟨pb, 6, none⟩ = some t0)
    (h1 : ∀ w', Later Z ci cd w w' → Q r → MS (envC Z top j ci cs cd room f Q End C) (Ev Try.prog true AtRel D1 S1) k (r + 1) false false (G (b.at (a.put ((ops[ii]?).bind (·.dst)) (.tuple #[f r, .bool true])) (.inRegion ops rest :: kk)) cs0) w')
    (h2 : ∀ w₀ w₁ w₂ i st e, Later Z ci cd w w₀ → RMx Z ci cd w₀ w₁ → RMx Z ci cd (w₁.setCell ⟨pb, 5, none⟩ (.bool true)) w₂ → i = r → st = false → End i st e w₂ →
      ∀ d, Ev Try.prog true AtRel D1 S1 (G (b.at (a.put ((ops[ii]?).bind (·.dst)) (.tuple #[.int .i64 0, .bool false])) (.inRegion ops rest :: kk)) cs0) ((w₂.at d).setCell ⟨pb, 6, none⟩ e)) :
    MS (envC Z top j ci cs cd room f Q End C) (Ev Try.prog true AtRel D1 S1) (k + 2) r false false (G ((base 10).at (Act.put ⟨slots10 pb, []⟩ ((ops10[1]?).bind (·.dst)) (.tuple #[])) [.inRegion ops10 [], .code rest10]) (b.at a (.inRegion ops (ii :: rest) :: kk) :: cs0)) w := by
  have T := O.quietM
  have fac : ∀ w₁, Later Z ci cd w w₁ → w₁.cell? ⟨pb, 5, none⟩ = some (.bool false) ∧ w₁.frozen? ⟨pb, 5, none⟩ = false ∧ w₁.cell? ⟨pb, 1, none⟩ = some (.chan (some ci)) ∧ w₁.frozen? ⟨pb, 1, none⟩ = false := by
    intro w₁ h
    have c := fun n => h.cell (a := ⟨pb, n, none⟩) (by exact hpb) hpi hpd hpz
    exact ⟨(c 5).1.trans ho, (c 5).2.trans (hz 5 (by omega)), (c 1).1.trans hp.i, (c 1).2.trans hp.iz⟩
  have L1 := Later.refl Z ci cd w
  refine MS_Ev (k := k + 1) ?_
  simp only [ops10, rest10, body10, Try.f10, Option.getD_some]
  try walk_nrm
  refine Ev.regionEnd T ?_
  refine Ev.seq T ?_
  refine Ev.region T ?_
  simp only [List.size_toArray, List.length_cons, List.length_nil, Nat.reduceAdd, Nat.zero_add, List.range, List.range.loop]
  refine Ev.still T rfl rfl (by decide) (fun w₂ h₂ K' hK' => ?_)
  go_simp
  refine hK' _ (T.read _ _ (fun e he => by have hm := mem_listed he; simp [go_sem] at hm)) ?_
  clear hK' K' h₂ w₂
  try walk_nrm
  refine Ev.still T rfl rfl (by decide) (fun w₂ h₂ K' hK' => ?_)
  go_simp
  refine hK' _ (T.read _ _ (fun e he => by have hm := mem_listed he; simp [go_sem] at hm)) ?_
  clear hK' K' h₂ w₂
  try walk_nrm
  refine Ev.still T rfl rfl (by decide) (fun w₂ h₂ K' hK' => ?_)
  go_simp
  refine hK' _ (T.read _ _ (fun e he => by have hm := mem_listed he; simp [go_sem] at hm)) ?_
  clear hK' K' h₂ w₂
  try walk_nrm
  refine Ev.still T rfl rfl (by decide) (fun w₂ h₂ K' hK' => ?_)
  have hf0 := (fac _ (L1.trans h₂.later)).2.2.1
  have hf1 := (fac _ (L1.trans h₂.later)).2.2.2
  go_simp
  refine hK' _ (T.read _ _ (fun e he => by have hm := mem_listed he; simp [go_sem, *] at hm; subst hm; exact M.rd _ hpz)) ?_
  clear hK' K' hf0 hf1 h₂ w₂
  try walk_nrm
  refine .stop fun w₃ r₃ => .inl ⟨rfl, rfl, rfl, htop, #[], by simp, fun w₄ r₄ => step_comm rfl rfl (by decide) (fun w => by simp [go_sem, execOp, rcase, Act.eval]) (fun w => by simp [go_sem, execOp, Act.eval]) w₄, fun w₄ r₄ hq => ?_, fun w₄ r₄ => ?_⟩
  · have L := L1.trans ((r₃.trans r₄).later)
    refine MS_Ev (k := k) ?_
    rw [served_core, Frame.finish_at]
    try walk_nrm
    refine Ev.still T rfl rfl (by decide) (fun w₅ h₅ K' hK' => ?_)
    go_simp
    refine hK' _ (T.read _ _ (fun e he => by have hm := mem_listed he; simp [go_sem] at hm)) ?_
    clear hK' K' h₅ w₅
    try walk_nrm
    refine Ev.still T rfl rfl (by decide) (fun w₅ h₅ K' hK' => ?_)
    go_simp
    refine hK' _ (T.read _ _ (fun e he => by have hm := mem_listed he; simp [go_sem] at hm)) ?_
    clear hK' K' h₅ w₅
    try walk_nrm
    refine Ev.still T rfl rfl (by decide) (fun w₅ h₅ K' hK' => ?_)
    go_simp
    refine hK' _ (T.read _ _ (fun e he => by have hm := mem_listed he; simp [go_sem] at hm)) ?_
    clear hK' K' h₅ w₅
    try walk_nrm
    refine Ev.still T rfl rfl (by decide) (fun w₅ h₅ K' hK' => ?_)
    go_simp
    refine hK' _ (T.read _ _ (fun e he => by have hm := mem_listed he; simp [go_sem] at hm)) ?_
    clear hK' K' h₅ w₅
    try walk_nrm
    refine Ev.still T rfl rfl (by decide) (fun w₅ h₅ K' hK' => ?_)
    go_simp
    refine hK' _ (T.read _ _ (fun e he => by have hm := mem_listed he; simp [go_sem] at hm)) ?_
    clear hK' K' h₅ w₅
    try walk_nrm
    refine Ev.regionEnd T ?_
    refine Ev.seq T ?_
    refine Ev.seq T ?_
    refine Ev.region T ?_
    simp only [List.size_toArray, List.length_cons, List.length_nil, Nat.reduceAdd, Nat.zero_add, List.range, List.range.loop]
    refine Ev.still T rfl rfl (by decide) (fun w₅ h₅ K' hK' => ?_)
    go_simp
    refine hK' _ (T.read _ _ (fun e he => by have hm := mem_listed he; simp [go_sem] at hm)) ?_
    clear hK' K' h₅ w₅
    try walk_nrm
    refine Ev.still T rfl rfl (by decide) (fun w₅ h₅ K' hK' => ?_)
    go_simp
    refine hK' _ (T.read _ _ (fun e he => by have hm := mem_listed he; simp [go_sem] at hm)) ?_
    clear hK' K' h₅ w₅
    try walk_nrm
    refine Ev.regionEnd T ?_
    refine Ev.cond T false rfl ?_
    simp only [if_true, if_false, Bool.false_eq_true, ↓reduceIte]
    refine Ev.skip T ?_
    refine Ev.seq T ?_
    refine Ev.region T ?_
    simp only [List.size_toArray, List.length_cons, List.length_nil, Nat.reduceAdd, Nat.zero_add, List.range, List.range.loop]
    refine Ev.still T rfl rfl (by decide) (fun w₅ h₅ K' hK' => ?_)
    go_simp
    refine hK' _ (T.read _ _ (fun e he => by have hm := mem_listed he; simp [go_sem] at hm)) ?_
    clear hK' K' h₅ w₅
    try walk_nrm
    refine Ev.still T rfl rfl (by decide) (fun w₅ h₅ K' hK' => ?_)
    go_simp
    refine hK' _ (T.read _ _ (fun e he => by have hm := mem_listed he; simp [go_sem] at hm)) ?_
    clear hK' K' h₅ w₅
    try walk_nrm
    refine Ev.still T rfl rfl (by decide) (fun w₅ h₅ K' hK' => ?_)
    go_simp
    refine hK' _ (T.read _ _ (fun e he => by have hm := mem_listed he; simp [go_sem] at hm)) ?_
    clear hK' K' h₅ w₅
    try walk_nrm
    refine Ev.still T rfl rfl (by decide) (fun w₅ h₅ K' hK' => ?_)
    go_simp
    refine hK' _ (T.read _ _ (fun e he => by have hm := mem_listed he; simp [go_sem] at hm)) ?_
    clear hK' K' h₅ w₅
    try walk_nrm
    refine Ev.regionEnd T ?_
    refine Ev.ret T ?_
    refine Ev.leave2 T (fn := Try.f10) rfl rfl Try.func10 rfl ?_
    try walk_nrm
    exact MS.more _ _ _ _ _ _ (h1 w₄ L hq)
  · have L := L1.trans ((r₃.trans r₄).later)
    refine MS_Ev (k := k) ?_
    rw [served_core, Frame.finish_at]
    try walk_nrm
    have c := fun n => L.cell (a := ⟨pb, n, none⟩) (by exact hpb) hpi hpd hpz
    refine Ev.still T rfl rfl (by decide) (fun w₅ h₅ K' hK' => ?_)
    go_simp
    refine hK' _ (T.read _ _ (fun e he => by have hm := mem_listed he; simp [go_sem] at hm)) ?_
    clear hK' K' h₅ w₅
    try walk_nrm
    refine Ev.still T rfl rfl (by decide) (fun w₅ h₅ K' hK' => ?_)
    go_simp
    refine hK' _ (T.read _ _ (fun e he => by have hm := mem_listed he; simp [go_sem] at hm)) ?_
    clear hK' K' h₅ w₅
    try walk_nrm
    refine Ev.still T rfl rfl (by decide) (fun w₅ h₅ K' hK' => ?_)
    go_simp
    refine hK' _ (T.read _ _ (fun e he => by have hm := mem_listed he; simp [go_sem] at hm)) ?_
    clear hK' K' h₅ w₅
    try walk_nrm
    refine Ev.still T rfl rfl (by decide) (fun w₅ h₅ K' hK' => ?_)
    go_simp
    refine hK' _ (T.read _ _ (fun e he => by have hm := mem_listed he; simp [go_sem] at hm)) ?_
    clear hK' K' h₅ w₅
    try walk_nrm
    refine Ev.still T rfl rfl (by decide) (fun w₅ h₅ K' hK' => ?_)
    go_simp
    refine hK' _ (T.read _ _ (fun e he => by have hm := mem_listed he; simp [go_sem] at hm)) ?_
    clear hK' K' h₅ w₅
    try walk_nrm
    refine Ev.regionEnd T ?_
    refine Ev.seq T ?_
    refine Ev.seq T ?_
    refine Ev.region T ?_
    simp only [List.size_toArray, List.length_cons, List.length_nil, Nat.reduceAdd, Nat.zero_add, List.range, List.range.loop]
    refine Ev.still T rfl rfl (by decide) (fun w₅ h₅ K' hK' => ?_)
    go_simp
    refine hK' _ (T.read _ _ (fun e he => by have hm := mem_listed he; simp [go_sem] at hm)) ?_
    clear hK' K' h₅ w₅
    try walk_nrm
    refine Ev.still T rfl rfl (by decide) (fun w₅ h₅ K' hK' => ?_)
    go_simp
    refine hK' _ (T.read _ _ (fun e he => by have hm := mem_listed he; simp [go_sem] at hm)) ?_
    clear hK' K' h₅ w₅
    try walk_nrm
    refine Ev.regionEnd T ?_
    refine Ev.cond T true rfl ?_
    simp only [if_true, if_false, Bool.false_eq_true, ↓reduceIte]
    refine Ev.region T ?_
    simp only [List.size_toArray, List.length_cons, List.length_nil, Nat.reduceAdd, Nat.zero_add, List.range, List.range.loop]
    refine Ev.still T rfl rfl (by decide) (fun w₅ h₅ K' hK' => ?_)
    go_simp
    refine hK' _ (T.read _ _ (fun e he => by have hm := mem_listed he; simp [go_sem] at hm)) ?_
    clear hK' K' h₅ w₅
    try walk_nrm
    refine Ev.call T (f := 20) (fn := Try.f20) rfl rfl (by decide) rfl Try.func20 (by decide) f20_body ?_
    simp only [List.map_toArray, List.map_cons, List.map_nil]
    rw [args20]
    try walk_nrm
    refine MS_of (k := k) (end_ms O M (.inl rfl) hpz hpi hps hpd hC5 hEI ((c 5).1.trans ho) (fun n hn => (c n).2.trans (hz n hn)) ((c 3).1.trans hp.d) ((c 6).1.trans ht) (fun w₁ w₂ i st e q1 q2 q3 q4 q5 q6 q7 d => ?_))
    have T1 := quiet1
    try walk_nrm
    refine Ev.regionEnd T1 ?_
    refine Ev.seq T1 ?_
    refine Ev.region T1 ?_
    simp only [List.size_toArray, List.length_cons, List.length_nil, Nat.reduceAdd, Nat.zero_add, List.range, List.range.loop]
    refine Ev.still T1 rfl rfl (by decide) (fun w₅ h₅ K' hK' => ?_)
    go_simp
    refine hK' _ (T1.read _ _ (fun e he => by have hm := mem_listed he; simp [go_sem] at hm)) ?_
    clear hK' K' h₅ w₅
    try walk_nrm
    refine Ev.still T1 rfl rfl (by decide) (fun w₅ h₅ K' hK' => ?_)
    go_simp
    refine hK' _ (T1.read _ _ (fun e he => by have hm := mem_listed he; simp [go_sem] at hm)) ?_
    clear hK' K' h₅ w₅
    try walk_nrm
    refine Ev.still T1 rfl rfl (by decide) (fun w₅ h₅ K' hK' => ?_)
    go_simp
    refine hK' _ (T1.read _ _ (fun e he => by have hm := mem_listed he; simp [go_sem] at hm)) ?_
    clear hK' K' h₅ w₅
    try walk_nrm
    refine Ev.still T1 rfl rfl (by decide) (fun w₅ h₅ K' hK' => ?_)
    go_simp
    refine hK' _ (T1.read _ _ (fun e he => by have hm := mem_listed he; simp [go_sem] at hm)) ?_
    clear hK' K' h₅ w₅
    try walk_nrm
    refine Ev.regionEnd T1 ?_
    refine Ev.ret T1 ?_
    refine Ev.leave2 T1 (fn := Try.f10) rfl rfl Try.func10 rfl ?_
    try walk_nrm
    exact h2 w₄ w₁ w₂ i st e L q1 q2 (q5 rfl) (q6 rfl) q7 d

set_option maxRecDepth 100000 in
set_option maxHeartbeats 2000000 in
/-- Stop, behind begin, beside the maker. -/
theorem stop_tail (O : (envC Z top j ci cs cd room f Q End C).Ok) (M : Main Z ci cs cd N C (RMx Z ci cd) (DM (envC Z top j ci cs cd room f Q End C)) (EvM (fun l => l = .obj ci ∨ ∃ a : Addr, Z a.block ∧ l = .cell a) (fun l => ∃ a, C a ∧ l = .cell a))) {pb k r : Nat} (hpz : ¬ Z pb) (hpi : pb ≠ ci) (hps : pb ≠ cs) (hpd : pb ≠ cd) (hC5 : ¬ C ⟨pb, 5, none⟩) (hEI : ∀ i st e w, End i st e w → ∃ x, e = .int .i64 x)
    {b : Frame} {a : Act} {ops : Array Oper} {ii : Nat} {rest : List Nat} {kk : List Item} {cs0 : List Frame} {w : World} (hpb : pb < w.heap.size) (hp : PumpAt pb ci cs cd w)
    (ho : w.cell? ⟨pb, 5, none⟩ = some (.bool false)) (hz : ∀ n, n < 7 → w.frozen? ⟨pb, n, none⟩ = false) {t0 : Value} (ht : w.cell? ⟨pb, 6, none⟩ = some t0)
    (h2 : ∀ w₀ w₁ w₂ i st e, Later Z ci cd w w₀ → RMx Z ci cd (w₀.setChan cs 0 #[] true 0 0 false) w₁ → RMx Z ci cd (w₁.setCell ⟨pb, 5, none⟩ (.bool true)) w₂ → r ≤ i → i ≤ r + room → End i st e w₂ →
      ∀ d, Ev Try.prog true AtRel D1 S1 (G (b.at (a.put ((ops[ii]?).bind (·.dst)) (.int .i64 0)) (.inRegion ops rest :: kk)) cs0) ((w₂.at d).setCell ⟨pb, 6, none⟩ e)) :
    MS (envC Z top j ci cs cd room f Q End C) (Ev Try.prog true AtRel D1 S1) (k + 2) r false false (G ((base 12).at (Act.put ⟨slots12 pb, []⟩ ((ops12[1]?).bind (·.dst)) (.tuple #[])) [.inRegion ops12 [], .code rest12]) (b.at a (.inRegion ops (ii :: rest) :: kk) :: cs0)) w := by
  have T := O.quietM
  have fac : ∀ w₁, Later Z ci cd w w₁ → ∀ n, w₁.cell? ⟨pb, n, none⟩ = w.cell? ⟨pb, n, none⟩ ∧ w₁.frozen? ⟨pb, n, none⟩ = w.frozen? ⟨pb, n, none⟩ := fun w₁ h n => h.cell (a := ⟨pb, n, none⟩) (by exact hpb) hpi hpd hpz
  have L1 := Later.refl Z ci cd w
  refine MS_Ev (k := k + 1) ?_
  simp only [ops12, rest12, body12, Try.f12, Option.getD_some]
  try walk_nrm
  refine Ev.regionEnd T ?_
  refine Ev.seq T ?_
  refine Ev.region T ?_
  simp only [List.size_toArray, List.length_cons, List.length_nil, Nat.reduceAdd, Nat.zero_add, List.range, List.range.loop]
  refine Ev.still T rfl rfl (by decide) (fun w₂ h₂ K' hK' => ?_)
  go_simp
  refine hK' _ (T.read _ _ (fun e he => by have hm := mem_listed he; simp [go_sem] at hm)) ?_
  clear hK' K' h₂ w₂
  try walk_nrm
  refine Ev.still T rfl rfl (by decide) (fun w₂ h₂ K' hK' => ?_)
  go_simp
  refine hK' _ (T.read _ _ (fun e he => by have hm := mem_listed he; simp [go_sem] at hm)) ?_
  clear hK' K' h₂ w₂
  try walk_nrm
  refine Ev.still T rfl rfl (by decide) (fun w₂ h₂ K' hK' => ?_)
  go_simp
  refine hK' _ (T.read _ _ (fun e he => by have hm := mem_listed he; simp [go_sem] at hm)) ?_
  clear hK' K' h₂ w₂
  try walk_nrm
  refine Ev.still T rfl rfl (by decide) (fun w₂ h₂ K' hK' => ?_)
  have hf0 := (fac _ (L1.trans h₂.later) 2).1.trans hp.s
  have hf1 := (fac _ (L1.trans h₂.later) 2).2.trans hp.sz
  go_simp
  refine hK' _ (T.read _ _ (fun e he => by have hm := mem_listed he; simp [go_sem, *] at hm; subst hm; exact M.rd _ hpz)) ?_
  clear hK' K' hf0 hf1 h₂ w₂
  try walk_nrm
  refine .stop fun w₃ r₃ => .inr (.inl ⟨rfl, rfl, rfl, by first | rfl | kernel_rfl, _, rfl, fun hc => stepG_close rfl rfl (by decide) rfl rfl hc (by simp [base, Try.func12, Try.f12]), ?_⟩)
  have L := L1.trans r₃.later
  have c := fun n => fac w₃ L n
  have e1 : ∀ n, (w₃.setChan cs 0 #[] true 0 0 false).cell? ⟨pb, n, none⟩ = w₃.cell? ⟨pb, n, none⟩ := fun n => cell_of_block (heap_setChan_ne w₃ _ _ _ _ _ _ (Ne.symm hps))
  have e2 : ∀ n, (w₃.setChan cs 0 #[] true 0 0 false).frozen? ⟨pb, n, none⟩ = w₃.frozen? ⟨pb, n, none⟩ := fun n => froz_of_block (heap_setChan_ne w₃ _ _ _ _ _ _ (Ne.symm hps))
  refine MS_Ev (k := k) ?_
  try walk_nrm
  refine Ev.regionEnd T ?_
  refine Ev.seq T ?_
  refine Ev.region T ?_
  simp only [List.size_toArray, List.length_cons, List.length_nil, Nat.reduceAdd, Nat.zero_add, List.range, List.range.loop]
  refine Ev.still T rfl rfl (by decide) (fun w₅ h₅ K' hK' => ?_)
  go_simp
  refine hK' _ (T.read _ _ (fun e he => by have hm := mem_listed he; simp [go_sem] at hm)) ?_
  clear hK' K' h₅ w₅
  try walk_nrm
  refine Ev.call T (f := 20) (fn := Try.f20) rfl rfl (by decide) rfl Try.func20 (by decide) f20_body ?_
  simp only [List.map_toArray, List.map_cons, List.map_nil]
  rw [args20]
  try walk_nrm
  refine MS_of (k := k) (end_ms O M (.inr rfl) hpz hpi hps hpd hC5 hEI ((e1 5).trans ((c 5).1.trans ho)) (fun n hn => (e2 n).trans ((c n).2.trans (hz n hn))) ((e1 3).trans ((c 3).1.trans hp.d)) ((e1 6).trans ((c 6).1.trans ht)) (fun w₁ w₂ i st e q1 q2 q3 q4 q5 q6 q7 d => ?_))
  have T1 := quiet1
  try walk_nrm
  refine Ev.regionEnd T1 ?_
  refine Ev.seq T1 ?_
  refine Ev.region T1 ?_
  simp only [List.size_toArray, List.length_cons, List.length_nil, Nat.reduceAdd, Nat.zero_add, List.range, List.range.loop]
  refine Ev.still T1 rfl rfl (by decide) (fun w₅ h₅ K' hK' => ?_)
  go_simp
  refine hK' _ (T1.read _ _ (fun e he => by have hm := mem_listed he; simp [go_sem] at hm)) ?_
  clear hK' K' h₅ w₅
  try walk_nrm
  refine Ev.regionEnd T1 ?_
  refine Ev.ret T1 ?_
  refine Ev.leave1 T1 (fn := Try.f12) rfl rfl Try.func12 rfl ?_
  try walk_nrm
  exact h2 w₃ w₁ w₂ i st e L q1 q2 q3 q4 q7 d
end
end Go.Proofs.Ytnbfmbkglkjhmaa
