import Derived.Test.YtnbfmbkglkjhmaaRows
import Derived.Test.YtnbfmbkglkjhmaaPmK
import Derived.WalkKit
import Derived.WalkSpells
import Derived.WalkLawsBesides
import Derived.KernelRfl
set_option linter.unusedSimpArgs false
set_option linter.unusedVariables false
namespace Go.Proofs.Ytnbfmbkglkjhmaa
open Go.Conc Go.RowKit Go.Pmp

/-- The three channels and whoever uses them, in this program. -/
noncomputable abbrev env (top j ci cs cd room : Nat) (f : Nat → Value) (Q : Nat → Prop) (End : Nat → Bool → Value → World → Prop) (Own Still : Loc → Prop) (RM RP : World → World → Prop) : Env :=
  ⟨Try.prog, j, ci, cs, cd, room, .int .i64 0, .int .i64 0, .agg #[], .int .i64 0, .tuple #[], f, Q, End, Own, Still, RM, RP, top⟩

/-- The pump at block pb: its channels. -/
structure PumpAt (pb ci cs cd : Nat) (w : World) : Prop where
  i : w.cell? ⟨pb, 1, none⟩ = some (.chan (some ci))
  iz : w.frozen? ⟨pb, 1, none⟩ = false
  s : w.cell? ⟨pb, 2, none⟩ = some (.chan (some cs))
  sz : w.frozen? ⟨pb, 2, none⟩ = false
  d : w.cell? ⟨pb, 3, none⟩ = some (.chan (some cd))
  dz : w.frozen? ⟨pb, 3, none⟩ = false

theorem PS_Ev {E : Env} {k i : Nat} {st X : Bool} {g : Goroutine} {w : World} (h : Ev E.P false E.RP (DP E) (StopP E (PS E k) i st X) g w) : PS E (k + 1) i st X g w := h
theorem evP_read {Own Still : Loc → Prop} {a : Addr} (h : Own (.cell a) ∨ Still (.cell a)) : EvP Own Still ⟨.cell a, false, false⟩ :=
  ⟨fun x hx => by simp [MemAct.ofEvent, MemAct.touch?] at hx; subst hx; exact h.imp id fun s => ⟨rfl, s⟩, by simp [Ev1]⟩

noncomputable def body23 : Code := Try.f23.body.getD .skip
def U (n : Nat) : List Value := List.replicate n undef

section
variable {top j ci cs cd room : Nat} {f : Nat → Value} {Q : Nat → Prop} {End : Nat → Bool → Value → World → Prop} {Own Still : Loc → Prop} {RM RP : World → World → Prop}
set_option maxRecDepth 100000 in
/-- A thing is put, or the maker is told to stop. -/
theorem put_ps (O : (env top j ci cs cd room f Q End Own Still RM RP).Ok) {k i pb : Nat} {st : Bool} {x : Int} (hQ : Q i) (hf : f i = .int .i64 x) (hS : ∀ n, n < 4 → Still (.cell ⟨pb, n, none⟩))
    {b : Frame} {a : Act} {ops : Array Oper} {ii : Nat} {rest : List Nat} {kk : List Item} {cs0 : List Frame} {w : World} (hw : ∀ w₁, RP w w₁ → PumpAt pb ci cs cd w₁)
    (h1 : ∀ w₁, RP w w₁ → i < top + room → PS (env top j ci cs cd room f Q End Own Still RM RP) k (i + 1) st false (G (b.at (a.put ((ops[ii]?).bind (·.dst)) (.bool true)) (.inRegion ops rest :: kk)) cs0) w₁)
    (h2 : ∀ w₁, RP w w₁ → PS (env top j ci cs cd room f Q End Own Still RM RP) k i true false (G (b.at (a.put ((ops[ii]?).bind (·.dst)) (.bool false)) (.inRegion ops rest :: kk)) cs0) w₁) :
    PS (env top j ci cs cd room f Q End Own Still RM RP) (k + 3) i st false (G ((base 23).at ⟨#[.pointer (some ⟨pb, 0, none⟩), .int .i64 x, undef, undef, undef, undef, undef, undef, undef, undef, undef, undef, undef, undef, undef, undef, undef, undef, undef, undef, undef, undef, undef, undef, undef], []⟩ [.code body23]) (b.at a (.inRegion ops (ii :: rest) :: kk) :: cs0)) w := by
  have T := O.quietP
  have hi := fun w₁ h => (hw w₁ h).i
  have hiz := fun w₁ h => (hw w₁ h).iz
  have hs := fun w₁ h => (hw w₁ h).s
  have hsz := fun w₁ h => (hw w₁ h).sz
  simp only [body23, Try.f23, Option.getD_some]
  show Ev _ _ _ _ _ _ _
  refine Ev.seq T ?_
  refine Ev.region T ?_
  simp only [List.size_toArray, List.length_cons, List.length_nil, Nat.reduceAdd, Nat.zero_add, List.range, List.range.loop]
  refine Ev.still T rfl rfl (by decide) (fun w₁ h₁ K' hK' => ?_)
  go_simp
  refine hK' _ (T.read _ _ (fun e he => by have hm := mem_listed he; simp [go_sem] at hm)) ?_
  clear hK' K' h₁ w₁
  try walk_nrm
  refine Ev.regionEnd T ?_
  refine Ev.seq T ?_
  refine Ev.seq T ?_
  refine Ev.region T ?_
  simp only [List.size_toArray, List.length_cons, List.length_nil, Nat.reduceAdd, Nat.zero_add, List.range, List.range.loop]
  refine Ev.still T rfl rfl (by decide) (fun w₁ h₁ K' hK' => ?_)
  go_simp
  refine hK' _ (T.read _ _ (fun e he => by have hm := mem_listed he; simp [go_sem] at hm)) ?_
  clear hK' K' h₁ w₁
  try walk_nrm
  refine Ev.still T rfl rfl (by decide) (fun w₁ h₁ K' hK' => ?_)
  go_simp
  refine hK' _ (T.read _ _ (fun e he => by have hm := mem_listed he; simp [go_sem] at hm)) ?_
  clear hK' K' h₁ w₁
  try walk_nrm
  refine Ev.still T rfl rfl (by decide) (fun w₁ h₁ K' hK' => ?_)
  go_simp
  refine hK' _ (T.read _ _ (fun e he => by have hm := mem_listed he; simp [go_sem] at hm)) ?_
  clear hK' K' h₁ w₁
  try walk_nrm
  refine Ev.still T rfl rfl (by decide) (fun w₁ h₁ K' hK' => ?_)
  have hf0 := hs w₁ h₁
  have hf1 := hsz w₁ h₁
  go_simp
  refine hK' _ (T.read _ _ (fun e he => by have hm := mem_listed he; simp [go_sem, *] at hm; subst hm; exact evP_read (.inr (hS 2 (by omega))))) ?_
  clear hK' K' hf0 hf1 h₁ w₁
  try walk_nrm
  refine Ev.regionEnd T ?_
  refine Ev.seq T ?_
  refine Ev.region T ?_
  simp only [List.size_toArray, List.length_cons, List.length_nil, Nat.reduceAdd, Nat.zero_add, List.range, List.range.loop]
  refine .stop fun w₁ r₁ => .inl ⟨rfl, rfl, #[], by simp, step_comm rfl rfl (by decide) (fun w => by simp [go_sem, execOp, rcase, Act.eval]) (fun w => by simp [go_sem, execOp, Act.eval]) w₁, ?_, ?_⟩
  · intro w₂ r₂
    have r := O.rpT _ _ _ r₁ r₂
    show Ev _ _ _ _ _ _ _
    rw [served_core, Frame.finish_at, res_poll]
    try walk_nrm
    refine Ev.still T rfl rfl (by decide) (fun w₁ h₁ K' hK' => ?_)
    go_simp
    refine hK' _ (T.read _ _ (fun e he => by have hm := mem_listed he; simp [go_sem] at hm)) ?_
    clear hK' K' h₁ w₁
    try walk_nrm
    refine Ev.still T rfl rfl (by decide) (fun w₁ h₁ K' hK' => ?_)
    go_simp
    refine hK' _ (T.read _ _ (fun e he => by have hm := mem_listed he; simp [go_sem] at hm)) ?_
    clear hK' K' h₁ w₁
    try walk_nrm
    refine Ev.regionEnd T ?_
    refine Ev.block T ?_
    refine Ev.cond T true rfl ?_
    simp only [if_true, if_false, Bool.false_eq_true, ↓reduceIte]
    refine Ev.seq T ?_
    refine Ev.region T ?_
    simp only [List.size_toArray, List.length_cons, List.length_nil, Nat.reduceAdd, Nat.zero_add, List.range, List.range.loop]
    refine Ev.still T rfl rfl (by decide) (fun w₁ h₁ K' hK' => ?_)
    go_simp
    refine hK' _ (T.read _ _ (fun e he => by have hm := mem_listed he; simp [go_sem] at hm)) ?_
    clear hK' K' h₁ w₁
    try walk_nrm
    refine Ev.regionEnd T ?_
    refine Ev.ret T ?_
    refine Ev.leave1 T (fn := Try.f23) rfl rfl Try.func23 rfl ?_
    try walk_nrm
    have h3 := PS.more _ _ _ _ _ _ (PS.more _ _ _ _ _ _ (h2 w₂ r))
    exact h3
  · intro w₂ r₂
    have r := O.rpT _ _ _ r₁ r₂
    have hi' := fun w₁ h => hi w₁ (O.rpT _ _ _ r h)
    have hiz' := fun w₁ h => hiz w₁ (O.rpT _ _ _ r h)
    have hs' := fun w₁ h => hs w₁ (O.rpT _ _ _ r h)
    have hsz' := fun w₁ h => hsz w₁ (O.rpT _ _ _ r h)
    clear hi hiz hs hsz
    show Ev _ _ _ _ _ _ _
    rw [served_core, Frame.finish_at, res_none]
    try walk_nrm
    refine Ev.still T rfl rfl (by decide) (fun w₁ h₁ K' hK' => ?_)
    go_simp
    refine hK' _ (T.read _ _ (fun e he => by have hm := mem_listed he; simp [go_sem] at hm)) ?_
    clear hK' K' h₁ w₁
    try walk_nrm
    refine Ev.still T rfl rfl (by decide) (fun w₁ h₁ K' hK' => ?_)
    go_simp
    refine hK' _ (T.read _ _ (fun e he => by have hm := mem_listed he; simp [go_sem] at hm)) ?_
    clear hK' K' h₁ w₁
    try walk_nrm
    refine Ev.regionEnd T ?_
    refine Ev.block T ?_
    refine Ev.cond T false rfl ?_
    simp only [if_true, if_false, Bool.false_eq_true, ↓reduceIte]
    refine Ev.skip T ?_
    refine Ev.inBlock T ?_
    refine Ev.seq T ?_
    refine Ev.seq T ?_
    refine Ev.seq T ?_
    refine Ev.region T ?_
    simp only [List.size_toArray, List.length_cons, List.length_nil, Nat.reduceAdd, Nat.zero_add, List.range, List.range.loop]
    refine Ev.still T rfl rfl (by decide) (fun w₁ h₁ K' hK' => ?_)
    go_simp
    refine hK' _ (T.read _ _ (fun e he => by have hm := mem_listed he; simp [go_sem] at hm)) ?_
    clear hK' K' h₁ w₁
    try walk_nrm
    refine Ev.still T rfl rfl (by decide) (fun w₁ h₁ K' hK' => ?_)
    go_simp
    refine hK' _ (T.read _ _ (fun e he => by have hm := mem_listed he; simp [go_sem] at hm)) ?_
    clear hK' K' h₁ w₁
    try walk_nrm
    refine Ev.still T rfl rfl (by decide) (fun w₁ h₁ K' hK' => ?_)
    go_simp
    refine hK' _ (T.read _ _ (fun e he => by have hm := mem_listed he; simp [go_sem] at hm)) ?_
    clear hK' K' h₁ w₁
    try walk_nrm
    refine Ev.still T rfl rfl (by decide) (fun w₁ h₁ K' hK' => ?_)
    have hf0 := hi' w₁ h₁
    have hf1 := hiz' w₁ h₁
    go_simp
    refine hK' _ (T.read _ _ (fun e he => by have hm := mem_listed he; simp [go_sem, *] at hm; subst hm; exact evP_read (.inr (hS 1 (by omega))))) ?_
    clear hK' K' hf0 hf1 h₁ w₁
    try walk_nrm
    refine Ev.regionEnd T ?_
    refine Ev.region T ?_
    simp only [List.size_toArray, List.length_cons, List.length_nil, Nat.reduceAdd, Nat.zero_add, List.range, List.range.loop]
    refine Ev.still T rfl rfl (by decide) (fun w₁ h₁ K' hK' => ?_)
    go_simp
    refine hK' _ (T.read _ _ (fun e he => by have hm := mem_listed he; simp [go_sem] at hm)) ?_
    clear hK' K' h₁ w₁
    try walk_nrm
    refine Ev.regionEnd T ?_
    refine Ev.region T ?_
    simp only [List.size_toArray, List.length_cons, List.length_nil, Nat.reduceAdd, Nat.zero_add, List.range, List.range.loop]
    refine Ev.still T rfl rfl (by decide) (fun w₁ h₁ K' hK' => ?_)
    go_simp
    refine hK' _ (T.read _ _ (fun e he => by have hm := mem_listed he; simp [go_sem] at hm)) ?_
    clear hK' K' h₁ w₁
    try walk_nrm
    refine Ev.still T rfl rfl (by decide) (fun w₁ h₁ K' hK' => ?_)
    go_simp
    refine hK' _ (T.read _ _ (fun e he => by have hm := mem_listed he; simp [go_sem] at hm)) ?_
    clear hK' K' h₁ w₁
    try walk_nrm
    refine Ev.still T rfl rfl (by decide) (fun w₁ h₁ K' hK' => ?_)
    go_simp
    refine hK' _ (T.read _ _ (fun e he => by have hm := mem_listed he; simp [go_sem] at hm)) ?_
    clear hK' K' h₁ w₁
    try walk_nrm
    refine Ev.still T rfl rfl (by decide) (fun w₁ h₁ K' hK' => ?_)
    have hf0 := hs' w₁ h₁
    have hf1 := hsz' w₁ h₁
    go_simp
    refine hK' _ (T.read _ _ (fun e he => by have hm := mem_listed he; simp [go_sem, *] at hm; subst hm; exact evP_read (.inr (hS 2 (by omega))))) ?_
    clear hK' K' hf0 hf1 h₁ w₁
    try walk_nrm
    refine Ev.regionEnd T ?_
    refine Ev.seq T ?_
    refine Ev.region T ?_
    simp only [List.size_toArray, List.length_cons, List.length_nil, Nat.reduceAdd, Nat.zero_add, List.range, List.range.loop]
    refine .stop fun w₃ r₃ => .inr (.inl ⟨rfl, rfl, hQ, #[], by simp, fun w₄ r₄ => step_comm rfl rfl (by decide) (fun w => by simp [go_sem, execOp, rcase, scase, Act.eval, Env.put, hf]) (fun w => by simp [go_sem, execOp, Act.eval]) w₄, ?_, ?_⟩)
    · intro w₄ r₄ hb
      have r' := O.rpT _ _ _ r (O.rpT _ _ _ r₃ r₄)
      refine PS_Ev ?_
      rw [served_core, Frame.finish_at]
      simp only [Env.put, res_put]
      try walk_nrm
      refine Ev.still T rfl rfl (by decide) (fun w₁ h₁ K' hK' => ?_)
      go_simp
      refine hK' _ (T.read _ _ (fun e he => by have hm := mem_listed he; simp [go_sem] at hm)) ?_
      clear hK' K' h₁ w₁
      try walk_nrm
      refine Ev.still T rfl rfl (by decide) (fun w₁ h₁ K' hK' => ?_)
      go_simp
      refine hK' _ (T.read _ _ (fun e he => by have hm := mem_listed he; simp [go_sem] at hm)) ?_
      clear hK' K' h₁ w₁
      try walk_nrm
      refine Ev.still T rfl rfl (by decide) (fun w₁ h₁ K' hK' => ?_)
      go_simp
      refine hK' _ (T.read _ _ (fun e he => by have hm := mem_listed he; simp [go_sem] at hm)) ?_
      clear hK' K' h₁ w₁
      try walk_nrm
      refine Ev.regionEnd T ?_
      refine Ev.block T ?_
      refine Ev.cond T true rfl ?_
      simp only [if_true, if_false, Bool.false_eq_true, ↓reduceIte]
      refine Ev.seq T ?_
      refine Ev.region T ?_
      simp only [List.size_toArray, List.length_cons, List.length_nil, Nat.reduceAdd, Nat.zero_add, List.range, List.range.loop]
      refine Ev.still T rfl rfl (by decide) (fun w₁ h₁ K' hK' => ?_)
      go_simp
      refine hK' _ (T.read _ _ (fun e he => by have hm := mem_listed he; simp [go_sem] at hm)) ?_
      clear hK' K' h₁ w₁
      try walk_nrm
      refine Ev.regionEnd T ?_
      refine Ev.ret T ?_
      refine Ev.leave1 T (fn := Try.f23) rfl rfl Try.func23 rfl ?_
      try walk_nrm
      exact PS.more _ _ _ _ _ _ (h1 w₄ r' hb)
    · intro w₄ r₄
      have r' := O.rpT _ _ _ r (O.rpT _ _ _ r₃ r₄)
      refine PS_Ev ?_
      rw [served_core, Frame.finish_at]
      simp only [Env.put, res_stop]
      try walk_nrm
      refine Ev.still T rfl rfl (by decide) (fun w₁ h₁ K' hK' => ?_)
      go_simp
      refine hK' _ (T.read _ _ (fun e he => by have hm := mem_listed he; simp [go_sem] at hm)) ?_
      clear hK' K' h₁ w₁
      try walk_nrm
      refine Ev.still T rfl rfl (by decide) (fun w₁ h₁ K' hK' => ?_)
      go_simp
      refine hK' _ (T.read _ _ (fun e he => by have hm := mem_listed he; simp [go_sem] at hm)) ?_
      clear hK' K' h₁ w₁
      try walk_nrm
      refine Ev.still T rfl rfl (by decide) (fun w₁ h₁ K' hK' => ?_)
      go_simp
      refine hK' _ (T.read _ _ (fun e he => by have hm := mem_listed he; simp [go_sem] at hm)) ?_
      clear hK' K' h₁ w₁
      try walk_nrm
      refine Ev.regionEnd T ?_
      refine Ev.block T ?_
      refine Ev.cond T false rfl ?_
      simp only [if_true, if_false, Bool.false_eq_true, ↓reduceIte]
      refine Ev.cond T true rfl ?_
      simp only [if_true, if_false, Bool.false_eq_true, ↓reduceIte]
      refine Ev.seq T ?_
      refine Ev.region T ?_
      simp only [List.size_toArray, List.length_cons, List.length_nil, Nat.reduceAdd, Nat.zero_add, List.range, List.range.loop]
      refine Ev.still T rfl rfl (by decide) (fun w₁ h₁ K' hK' => ?_)
      go_simp
      refine hK' _ (T.read _ _ (fun e he => by have hm := mem_listed he; simp [go_sem] at hm)) ?_
      clear hK' K' h₁ w₁
      try walk_nrm
      refine Ev.regionEnd T ?_
      refine Ev.ret T ?_
      refine Ev.leave1 T (fn := Try.f23) rfl rfl Try.func23 rfl ?_
      try walk_nrm
      exact PS.more _ _ _ _ _ _ (h2 w₄ r')

noncomputable def bot : Frame := { (default : Frame) with fn := Try.prog.funcs.size, defers := [], mode := .panicking [goexitEntry] }
noncomputable def body22 : Code := Try.f22.body.getD .skip
noncomputable def ops22 : Array Oper := match body22 with | .seq (.region _ o _) _ => o | _ => #[]
noncomputable def rest22 : Code := match body22 with | .seq _ y => y | c => c
theorem quitsTail (T : Array Value) : QuitsD Try.prog 2 0 (G { (baseD 22).at ⟨T, []⟩ [] with mode := .returning } [bot]) := by
  refine QuitsD.ctl (g' := G bot []) rfl (fun w => ?_) ?_
  · simp [G, stepG, unwind, doReturn, results, Frame.at, baseD, bot, Try.func22, Try.f22, seen, GStep.after, goexitEntry]
  refine QuitsD.ctl (g' := { G bot [] with status := .finished }) rfl (fun w => ?_) ⟨rfl, rfl⟩
  simp [G, stepG, unwind, bot, goexitEntry, Frame.catches]
  rfl

section
variable {top j ci cs cd room : Nat} {f : Nat → Value} {Q : Nat → Prop} {End : Nat → Bool → Value → World → Prop} {Own Still : Loc → Prop} {RM RP : World → World → Prop}
set_option maxRecDepth 100000 in
/-- The maker has come back with e: it closes, tells, leaves. -/
theorem fin_ps (O : (env top j ci cs cd room f Q End Own Still RM RP).Ok) {i pb vb : Nat} {st : Bool} {e : Value} (hS : ∀ n, n < 4 → Still (.cell ⟨pb, n, none⟩)) (hV : Still (.cell ⟨vb, 0, none⟩)) {w : World}
    (hw : ∀ w₁, RP w w₁ → PumpAt pb ci cs cd w₁ ∧ w₁.cell? ⟨vb, 0, none⟩ = some (.pointer (some ⟨pb, 0, none⟩)) ∧ w₁.frozen? ⟨vb, 0, none⟩ = false ∧ End i st e w₁) (j1 j2 j3 j4 j5 j6 j7 : Value) :
    PS (env top j ci cs cd room f Q End Own Still RM RP) 2 i st false (G ((baseD 22).at ⟨#[.pointer (some ⟨vb, 0, none⟩), j1, j2, j3, j4, j5, j6, j7, e, undef, undef, undef, undef, undef, undef, undef, undef, undef], []⟩ [.inRegion ops22 [7], .code rest22]) [bot]) w := by
  have T := O.quietP
  have hi := fun w₁ h => (hw w₁ h).1.i
  have hiz := fun w₁ h => (hw w₁ h).1.iz
  have hv := fun w₁ h => (hw w₁ h).2.1
  have hvz := fun w₁ h => (hw w₁ h).2.2.1
  refine PS_Ev ?_
  simp only [ops22, rest22, body22, Try.f22, Option.getD_some]
  refine Ev.still T rfl rfl (by decide) (fun w₁ h₁ K' hK' => ?_)
  go_simp
  refine hK' _ (T.read _ _ (fun e he => by have hm := mem_listed he; simp [go_sem] at hm)) ?_
  clear hK' K' h₁ w₁
  try walk_nrm
  refine Ev.regionEnd T ?_
  refine Ev.seq T ?_
  refine Ev.region T ?_
  simp only [List.size_toArray, List.length_cons, List.length_nil, Nat.reduceAdd, Nat.zero_add, List.range, List.range.loop]
  refine Ev.still T rfl rfl (by decide) (fun w₁ h₁ K' hK' => ?_)
  have hf0 := hv w₁ h₁
  have hf1 := hvz w₁ h₁
  go_simp
  refine hK' _ (T.read _ _ (fun e he => by have hm := mem_listed he; simp [go_sem, *] at hm; subst hm; exact evP_read (.inr hV))) ?_
  clear hK' K' hf0 hf1 h₁ w₁
  try walk_nrm
  refine Ev.still T rfl rfl (by decide) (fun w₁ h₁ K' hK' => ?_)
  go_simp
  refine hK' _ (T.read _ _ (fun e he => by have hm := mem_listed he; simp [go_sem] at hm)) ?_
  clear hK' K' h₁ w₁
  try walk_nrm
  refine Ev.still T rfl rfl (by decide) (fun w₁ h₁ K' hK' => ?_)
  go_simp
  refine hK' _ (T.read _ _ (fun e he => by have hm := mem_listed he; simp [go_sem] at hm)) ?_
  clear hK' K' h₁ w₁
  try walk_nrm
  refine Ev.still T rfl rfl (by decide) (fun w₁ h₁ K' hK' => ?_)
  have hf0 := hi w₁ h₁
  have hf1 := hiz w₁ h₁
  go_simp
  refine hK' _ (T.read _ _ (fun e he => by have hm := mem_listed he; simp [go_sem, *] at hm; subst hm; exact evP_read (.inr (hS 1 (by omega))))) ?_
  clear hK' K' hf0 hf1 h₁ w₁
  try walk_nrm
  refine .stop fun w₁ r₁ => .inr (.inr (.inl ⟨rfl, rfl, by first | rfl | kernel_rfl, _, rfl, fun buf n r hc => stepG_close rfl rfl (by decide) rfl rfl hc (by simp [baseD, Try.func22, Try.f22]), fun w₂ r₂ => ?_⟩))
  have r := O.rpT _ _ _ r₁ r₂
  have hv' := fun w₁ h => hv w₁ (O.rpT _ _ _ r h)
  have hvz' := fun w₁ h => hvz w₁ (O.rpT _ _ _ r h)
  have hd' := fun w₁ h => (hw w₁ (O.rpT _ _ _ r h)).1.d
  have hdz' := fun w₁ h => (hw w₁ (O.rpT _ _ _ r h)).1.dz
  refine PS_Ev ?_
  try walk_nrm
  refine Ev.regionEnd T ?_
  refine Ev.region T ?_
  simp only [List.size_toArray, List.length_cons, List.length_nil, Nat.reduceAdd, Nat.zero_add, List.range, List.range.loop]
  refine Ev.still T rfl rfl (by decide) (fun w₁ h₁ K' hK' => ?_)
  have hf0 := hv' w₁ h₁
  have hf1 := hvz' w₁ h₁
  go_simp
  refine hK' _ (T.read _ _ (fun e he => by have hm := mem_listed he; simp [go_sem, *] at hm; subst hm; exact evP_read (.inr hV))) ?_
  clear hK' K' hf0 hf1 h₁ w₁
  try walk_nrm
  refine Ev.still T rfl rfl (by decide) (fun w₁ h₁ K' hK' => ?_)
  go_simp
  refine hK' _ (T.read _ _ (fun e he => by have hm := mem_listed he; simp [go_sem] at hm)) ?_
  clear hK' K' h₁ w₁
  try walk_nrm
  refine Ev.still T rfl rfl (by decide) (fun w₁ h₁ K' hK' => ?_)
  go_simp
  refine hK' _ (T.read _ _ (fun e he => by have hm := mem_listed he; simp [go_sem] at hm)) ?_
  clear hK' K' h₁ w₁
  try walk_nrm
  refine Ev.still T rfl rfl (by decide) (fun w₁ h₁ K' hK' => ?_)
  have hf0 := hd' w₁ h₁
  have hf1 := hdz' w₁ h₁
  go_simp
  refine hK' _ (T.read _ _ (fun e he => by have hm := mem_listed he; simp [go_sem, *] at hm; subst hm; exact evP_read (.inr (hS 3 (by omega))))) ?_
  clear hK' K' hf0 hf1 h₁ w₁
  try walk_nrm
  refine Ev.still T rfl rfl (by decide) (fun w₁ h₁ K' hK' => ?_)
  go_simp
  refine hK' _ (T.read _ _ (fun e he => by have hm := mem_listed he; simp [go_sem] at hm)) ?_
  clear hK' K' h₁ w₁
  try walk_nrm
  refine .stop fun w₃ r₃ => .inr (.inr (.inr ⟨rfl, rfl, e, #[], 4, by simp, step_comm rfl rfl (by decide) (fun w => by simp [go_sem, execOp, scase, Act.eval]) (fun w => by simp [go_sem, execOp, Act.eval]) w₃, (hw w₃ (O.rpT _ _ _ r r₃)).2.2.2, ?_⟩))
  rw [served_core, Frame.finish_at]
  try walk_nrm
  refine QuitsD.ctl rfl (fun w => stepG_region_end) ?_
  refine QuitsD.ctl rfl (fun w => stepG_end) ?_
  exact quitsTail _
end
end
end Go.Proofs.Ytnbfmbkglkjhmaa
